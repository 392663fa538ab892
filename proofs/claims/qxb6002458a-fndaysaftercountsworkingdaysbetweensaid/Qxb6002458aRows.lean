/-
  No cell of these rows narrows 'for every input' (looked for: loops, veiled, ifaces, maps, wideKeys, modest, calm, conditions, laid).
  DERIVED. THE GIVEN ROWS OF THIS SEAT. 11 by the template 'for every input the law returns true; each argument reads behind the call as it read before'; 0 by the template 'total and deterministic' (their statements: Qxb6002458aTotals.lean).
  GIVEN WITH THE SEED: the statements are not yours to turn. If you find one false, say at which input.
  Laid BY PROGRAM, IN A SANDBOX (cutbox-rows.mjs): the forced cells as the released guide's own fill.sh prints them over the translation 1154728af8673dc9… (all of the seat's roots in one cut). By AI agents, Wed Nov 11 2026. No macro, syntax, notation, axiom, sorry.
-/
import Derived.Test.Qxb6002458aChecked
import GoSem.Claim
import GoSem.ClaimJoined
import GoSem.ClaimMapViews
import Derived.JoinedTies
import Derived.KernelRfl
namespace Go.Proofs.Qxb6002458a
/- THE CELL 'sum', in the pinned program and in every row, IS THE sha256 OF THE DUMP (.gsa) THAT Qxb6002458aProg.lean LOADS. Nothing in Lean hashes anything: it is a label: what it is worth is what the hold of that sum in a sandbox is worth. -/
noncomputable def Try.pinned : Pinned := { name := "qxb6002458a", sum := "1154728af8673dc91fb33c4a40f404df52b4e09c60a3d856e8bd6c2f393c83af", checked := Try.checked }
namespace Rows
def none {H : Type} : Left H := { results := [], args := [] }

/-- 'zzlaws_calendar_g1.FnCivilInvertsDaysFrom1970': WHATEVER THE INPUT: true; the input reads as it did. -/
def fnCivilInvertsDaysFrom1970Spec : ChangeSpec := { name := "fnCivilInvertsDaysFrom1970", fn := fun _ => fun
  | [d] => { results := [.lit (.bool true)], args := [d] }
  | _ => none }
def fnCivilInvertsDaysFrom1970Row : OpenClaim := { program := "qxb6002458a", sum := "1154728af8673dc91fb33c4a40f404df52b4e09c60a3d856e8bd6c2f393c83af", func := "example.com/zhaomu/zhaomu/zzlaws_calendar_g1.FnCivilInvertsDaysFrom1970", spec := "fnCivilInvertsDaysFrom1970", apart := false }
def FnCivilInvertsDaysFrom1970Said : Prop := fnCivilInvertsDaysFrom1970Row.holds Try.pinned (OpenSpec.ofChange fnCivilInvertsDaysFrom1970Spec)

/-- ITS FALSE NEIGHBOUR: 'it returns false'. Refute it at one input. -/
def fnCivilInvertsDaysFrom1970Wrong : ChangeSpec := { name := "fnCivilInvertsDaysFrom1970", fn := fun _ => fun
  | [d] => { results := [.lit (.bool false)], args := [d] }
  | _ => none }
def FnCivilInvertsDaysFrom1970WrongFalsely : Prop := fnCivilInvertsDaysFrom1970Row.holds Try.pinned (OpenSpec.ofChange fnCivilInvertsDaysFrom1970Wrong)

/-- 'zzlaws_calendar_g1.FnDaysFrom1970InvertsCivil': WHATEVER THE INPUT: true; the input reads as it did. -/
def fnDaysFrom1970InvertsCivilSpec : ChangeSpec := { name := "fnDaysFrom1970InvertsCivil", fn := fun _ => fun
  | [d1, d2, d3] => { results := [.lit (.bool true)], args := [d1, d2, d3] }
  | _ => none }
def fnDaysFrom1970InvertsCivilRow : OpenClaim := { program := "qxb6002458a", sum := "1154728af8673dc91fb33c4a40f404df52b4e09c60a3d856e8bd6c2f393c83af", func := "example.com/zhaomu/zhaomu/zzlaws_calendar_g1.FnDaysFrom1970InvertsCivil", spec := "fnDaysFrom1970InvertsCivil", apart := false }
def FnDaysFrom1970InvertsCivilSaid : Prop := fnDaysFrom1970InvertsCivilRow.holds Try.pinned (OpenSpec.ofChange fnDaysFrom1970InvertsCivilSpec)

/-- ITS FALSE NEIGHBOUR: 'it returns false'. Refute it at one input. -/
def fnDaysFrom1970InvertsCivilWrong : ChangeSpec := { name := "fnDaysFrom1970InvertsCivil", fn := fun _ => fun
  | [d1, d2, d3] => { results := [.lit (.bool false)], args := [d1, d2, d3] }
  | _ => none }
def FnDaysFrom1970InvertsCivilWrongFalsely : Prop := fnDaysFrom1970InvertsCivilRow.holds Try.pinned (OpenSpec.ofChange fnDaysFrom1970InvertsCivilWrong)

/-- 'zzlaws_calendar_g1.FnCivilStepsOneDay': WHATEVER THE INPUT: true; the input reads as it did. -/
def fnCivilStepsOneDaySpec : ChangeSpec := { name := "fnCivilStepsOneDay", fn := fun _ => fun
  | [d] => { results := [.lit (.bool true)], args := [d] }
  | _ => none }
def fnCivilStepsOneDayRow : OpenClaim := { program := "qxb6002458a", sum := "1154728af8673dc91fb33c4a40f404df52b4e09c60a3d856e8bd6c2f393c83af", func := "example.com/zhaomu/zhaomu/zzlaws_calendar_g1.FnCivilStepsOneDay", spec := "fnCivilStepsOneDay", apart := false }
def FnCivilStepsOneDaySaid : Prop := fnCivilStepsOneDayRow.holds Try.pinned (OpenSpec.ofChange fnCivilStepsOneDaySpec)

/-- ITS FALSE NEIGHBOUR: 'it returns false'. Refute it at one input. -/
def fnCivilStepsOneDayWrong : ChangeSpec := { name := "fnCivilStepsOneDay", fn := fun _ => fun
  | [d] => { results := [.lit (.bool false)], args := [d] }
  | _ => none }
def FnCivilStepsOneDayWrongFalsely : Prop := fnCivilStepsOneDayRow.holds Try.pinned (OpenSpec.ofChange fnCivilStepsOneDayWrong)

/-- 'zzlaws_calendar_g1.FnDaysInMonthIsMonthSpan': WHATEVER THE INPUT: true; the input reads as it did. -/
def fnDaysInMonthIsMonthSpanSpec : ChangeSpec := { name := "fnDaysInMonthIsMonthSpan", fn := fun _ => fun
  | [d1, d2] => { results := [.lit (.bool true)], args := [d1, d2] }
  | _ => none }
def fnDaysInMonthIsMonthSpanRow : OpenClaim := { program := "qxb6002458a", sum := "1154728af8673dc91fb33c4a40f404df52b4e09c60a3d856e8bd6c2f393c83af", func := "example.com/zhaomu/zhaomu/zzlaws_calendar_g1.FnDaysInMonthIsMonthSpan", spec := "fnDaysInMonthIsMonthSpan", apart := false }
def FnDaysInMonthIsMonthSpanSaid : Prop := fnDaysInMonthIsMonthSpanRow.holds Try.pinned (OpenSpec.ofChange fnDaysInMonthIsMonthSpanSpec)

/-- ITS FALSE NEIGHBOUR: 'it returns false'. Refute it at one input. -/
def fnDaysInMonthIsMonthSpanWrong : ChangeSpec := { name := "fnDaysInMonthIsMonthSpan", fn := fun _ => fun
  | [d1, d2] => { results := [.lit (.bool false)], args := [d1, d2] }
  | _ => none }
def FnDaysInMonthIsMonthSpanWrongFalsely : Prop := fnDaysInMonthIsMonthSpanRow.holds Try.pinned (OpenSpec.ofChange fnDaysInMonthIsMonthSpanWrong)

/-- 'zzlaws_calendar_g1.FnDaysFrom1970OrdersAsDates': WHATEVER THE INPUT: true; the input reads as it did. -/
def fnDaysFrom1970OrdersAsDatesSpec : ChangeSpec := { name := "fnDaysFrom1970OrdersAsDates", fn := fun _ => fun
  | [d1, d2, d3, d4, d5, d6] => { results := [.lit (.bool true)], args := [d1, d2, d3, d4, d5, d6] }
  | _ => none }
def fnDaysFrom1970OrdersAsDatesRow : OpenClaim := { program := "qxb6002458a", sum := "1154728af8673dc91fb33c4a40f404df52b4e09c60a3d856e8bd6c2f393c83af", func := "example.com/zhaomu/zhaomu/zzlaws_calendar_g1.FnDaysFrom1970OrdersAsDates", spec := "fnDaysFrom1970OrdersAsDates", apart := false }
def FnDaysFrom1970OrdersAsDatesSaid : Prop := fnDaysFrom1970OrdersAsDatesRow.holds Try.pinned (OpenSpec.ofChange fnDaysFrom1970OrdersAsDatesSpec)

/-- ITS FALSE NEIGHBOUR: 'it returns false'. Refute it at one input. -/
def fnDaysFrom1970OrdersAsDatesWrong : ChangeSpec := { name := "fnDaysFrom1970OrdersAsDates", fn := fun _ => fun
  | [d1, d2, d3, d4, d5, d6] => { results := [.lit (.bool false)], args := [d1, d2, d3, d4, d5, d6] }
  | _ => none }
def FnDaysFrom1970OrdersAsDatesWrongFalsely : Prop := fnDaysFrom1970OrdersAsDatesRow.holds Try.pinned (OpenSpec.ofChange fnDaysFrom1970OrdersAsDatesWrong)

/-- 'zzlaws_calendar_g1.FnFloorDivIsFloor': WHATEVER THE INPUT: true; the input reads as it did. -/
def fnFloorDivIsFloorSpec : ChangeSpec := { name := "fnFloorDivIsFloor", fn := fun _ => fun
  | [d1, d2] => { results := [.lit (.bool true)], args := [d1, d2] }
  | _ => none }
def fnFloorDivIsFloorRow : OpenClaim := { program := "qxb6002458a", sum := "1154728af8673dc91fb33c4a40f404df52b4e09c60a3d856e8bd6c2f393c83af", func := "example.com/zhaomu/zhaomu/zzlaws_calendar_g1.FnFloorDivIsFloor", spec := "fnFloorDivIsFloor", apart := false }
def FnFloorDivIsFloorSaid : Prop := fnFloorDivIsFloorRow.holds Try.pinned (OpenSpec.ofChange fnFloorDivIsFloorSpec)

/-- ITS FALSE NEIGHBOUR: 'it returns false'. Refute it at one input. -/
def fnFloorDivIsFloorWrong : ChangeSpec := { name := "fnFloorDivIsFloor", fn := fun _ => fun
  | [d1, d2] => { results := [.lit (.bool false)], args := [d1, d2] }
  | _ => none }
def FnFloorDivIsFloorWrongFalsely : Prop := fnFloorDivIsFloorRow.holds Try.pinned (OpenSpec.ofChange fnFloorDivIsFloorWrong)

/-- 'zzlaws_calendar_g1.FnAtoiAcceptsDigitsAlone': WHATEVER THE INPUT: true; the input reads as it did. -/
def fnAtoiAcceptsDigitsAloneSpec : ChangeSpec := { name := "fnAtoiAcceptsDigitsAlone", fn := fun _ => fun
  | [d] => { results := [.lit (.bool true)], args := [d] }
  | _ => none }
def fnAtoiAcceptsDigitsAloneRow : OpenClaim := { program := "qxb6002458a", sum := "1154728af8673dc91fb33c4a40f404df52b4e09c60a3d856e8bd6c2f393c83af", func := "example.com/zhaomu/zhaomu/zzlaws_calendar_g1.FnAtoiAcceptsDigitsAlone", spec := "fnAtoiAcceptsDigitsAlone", apart := false }
def FnAtoiAcceptsDigitsAloneSaid : Prop := fnAtoiAcceptsDigitsAloneRow.holds Try.pinned (OpenSpec.ofChange fnAtoiAcceptsDigitsAloneSpec)

/-- ITS FALSE NEIGHBOUR: 'it returns false'. Refute it at one input. -/
def fnAtoiAcceptsDigitsAloneWrong : ChangeSpec := { name := "fnAtoiAcceptsDigitsAlone", fn := fun _ => fun
  | [d] => { results := [.lit (.bool false)], args := [d] }
  | _ => none }
def FnAtoiAcceptsDigitsAloneWrongFalsely : Prop := fnAtoiAcceptsDigitsAloneRow.holds Try.pinned (OpenSpec.ofChange fnAtoiAcceptsDigitsAloneWrong)

/-- 'zzlaws_calendar_g1.FnFromDigitsAcceptsRealDaysAlone': WHATEVER THE INPUT: true; the input reads as it did. -/
def fnFromDigitsAcceptsRealDaysAloneSpec : ChangeSpec := { name := "fnFromDigitsAcceptsRealDaysAlone", fn := fun _ => fun
  | [d1, d2, d3] => { results := [.lit (.bool true)], args := [d1, d2, d3] }
  | _ => none }
def fnFromDigitsAcceptsRealDaysAloneRow : OpenClaim := { program := "qxb6002458a", sum := "1154728af8673dc91fb33c4a40f404df52b4e09c60a3d856e8bd6c2f393c83af", func := "example.com/zhaomu/zhaomu/zzlaws_calendar_g1.FnFromDigitsAcceptsRealDaysAlone", spec := "fnFromDigitsAcceptsRealDaysAlone", apart := false }
def FnFromDigitsAcceptsRealDaysAloneSaid : Prop := fnFromDigitsAcceptsRealDaysAloneRow.holds Try.pinned (OpenSpec.ofChange fnFromDigitsAcceptsRealDaysAloneSpec)

/-- ITS FALSE NEIGHBOUR: 'it returns false'. Refute it at one input. -/
def fnFromDigitsAcceptsRealDaysAloneWrong : ChangeSpec := { name := "fnFromDigitsAcceptsRealDaysAlone", fn := fun _ => fun
  | [d1, d2, d3] => { results := [.lit (.bool false)], args := [d1, d2, d3] }
  | _ => none }
def FnFromDigitsAcceptsRealDaysAloneWrongFalsely : Prop := fnFromDigitsAcceptsRealDaysAloneRow.holds Try.pinned (OpenSpec.ofChange fnFromDigitsAcceptsRealDaysAloneWrong)

/-- 'zzlaws_calendar_g2.FnDaysAfterCountsWorkingDaysBetween': WHATEVER THE INPUT: true; the input reads as it did. -/
def fnDaysAfterCountsWorkingDaysBetweenSpec : ChangeSpec := { name := "fnDaysAfterCountsWorkingDaysBetween", fn := fun _ => fun
  | [d1, d2, d3] => { results := [.lit (.bool true)], args := [d1, d2, d3] }
  | _ => none }
def fnDaysAfterCountsWorkingDaysBetweenRow : OpenClaim := { program := "qxb6002458a", sum := "1154728af8673dc91fb33c4a40f404df52b4e09c60a3d856e8bd6c2f393c83af", func := "example.com/zhaomu/zhaomu/zzlaws_calendar_g2.FnDaysAfterCountsWorkingDaysBetween", spec := "fnDaysAfterCountsWorkingDaysBetween", apart := false }
def FnDaysAfterCountsWorkingDaysBetweenSaid : Prop := fnDaysAfterCountsWorkingDaysBetweenRow.holds Try.pinned (OpenSpec.ofChange fnDaysAfterCountsWorkingDaysBetweenSpec)

/-- ITS FALSE NEIGHBOUR: 'it returns false'. Refute it at one input. -/
def fnDaysAfterCountsWorkingDaysBetweenWrong : ChangeSpec := { name := "fnDaysAfterCountsWorkingDaysBetween", fn := fun _ => fun
  | [d1, d2, d3] => { results := [.lit (.bool false)], args := [d1, d2, d3] }
  | _ => none }
def FnDaysAfterCountsWorkingDaysBetweenWrongFalsely : Prop := fnDaysAfterCountsWorkingDaysBetweenRow.holds Try.pinned (OpenSpec.ofChange fnDaysAfterCountsWorkingDaysBetweenWrong)

/-- 'zzlaws_calendar_g2.FnDaysInYearCountsTheDatesOfItsYear': WHATEVER THE INPUT: true; the input reads as it did. -/
def fnDaysInYearCountsTheDatesOfItsYearSpec : ChangeSpec := { name := "fnDaysInYearCountsTheDatesOfItsYear", fn := fun _ => fun
  | [d] => { results := [.lit (.bool true)], args := [d] }
  | _ => none }
def fnDaysInYearCountsTheDatesOfItsYearRow : OpenClaim := { program := "qxb6002458a", sum := "1154728af8673dc91fb33c4a40f404df52b4e09c60a3d856e8bd6c2f393c83af", func := "example.com/zhaomu/zhaomu/zzlaws_calendar_g2.FnDaysInYearCountsTheDatesOfItsYear", spec := "fnDaysInYearCountsTheDatesOfItsYear", apart := false }
def FnDaysInYearCountsTheDatesOfItsYearSaid : Prop := fnDaysInYearCountsTheDatesOfItsYearRow.holds Try.pinned (OpenSpec.ofChange fnDaysInYearCountsTheDatesOfItsYearSpec)

/-- ITS FALSE NEIGHBOUR: 'it returns false'. Refute it at one input. -/
def fnDaysInYearCountsTheDatesOfItsYearWrong : ChangeSpec := { name := "fnDaysInYearCountsTheDatesOfItsYear", fn := fun _ => fun
  | [d] => { results := [.lit (.bool false)], args := [d] }
  | _ => none }
def FnDaysInYearCountsTheDatesOfItsYearWrongFalsely : Prop := fnDaysInYearCountsTheDatesOfItsYearRow.holds Try.pinned (OpenSpec.ofChange fnDaysInYearCountsTheDatesOfItsYearWrong)

/-- 'zzlaws_calendar_g2.FnYearRepeatsEvery400Years': WHATEVER THE INPUT: true; the input reads as it did. -/
def fnYearRepeatsEvery400YearsSpec : ChangeSpec := { name := "fnYearRepeatsEvery400Years", fn := fun _ => fun
  | [d] => { results := [.lit (.bool true)], args := [d] }
  | _ => none }
def fnYearRepeatsEvery400YearsRow : OpenClaim := { program := "qxb6002458a", sum := "1154728af8673dc91fb33c4a40f404df52b4e09c60a3d856e8bd6c2f393c83af", func := "example.com/zhaomu/zhaomu/zzlaws_calendar_g2.FnYearRepeatsEvery400Years", spec := "fnYearRepeatsEvery400Years", apart := false }
def FnYearRepeatsEvery400YearsSaid : Prop := fnYearRepeatsEvery400YearsRow.holds Try.pinned (OpenSpec.ofChange fnYearRepeatsEvery400YearsSpec)

/-- ITS FALSE NEIGHBOUR: 'it returns false'. Refute it at one input. -/
def fnYearRepeatsEvery400YearsWrong : ChangeSpec := { name := "fnYearRepeatsEvery400Years", fn := fun _ => fun
  | [d] => { results := [.lit (.bool false)], args := [d] }
  | _ => none }
def FnYearRepeatsEvery400YearsWrongFalsely : Prop := fnYearRepeatsEvery400YearsRow.holds Try.pinned (OpenSpec.ofChange fnYearRepeatsEvery400YearsWrong)

end Rows
end Go.Proofs.Qxb6002458a
