import Derived.Test.Qxb6002458aCal2
namespace Go.Proofs.Qxb6002458a
set_option linter.unusedVariables false
open Plain (S leap lp dim dn valid J)
theorem dn_bd {y m d : Int} (v : valid y m d) (h1 : -2000000 ≤ y) (h2 : y ≤ 2000000) : -4000000000 ≤ dn y m d ∧ dn y m d ≤ 4000000000 := by
  have h := Plain.in_year v
  generalize dn y m d = n at *
  unfold Plain.J Plain.S at h
  omega
end Go.Proofs.Qxb6002458a
