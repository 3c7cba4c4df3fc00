
/-
  ChainTTL: the plain law.
-/
import Derived.Test.YtmliclfepnebfaaChY
import Derived.Test.YtmliclfepnebfaaChX
namespace Go.Proofs.Ytmliclfepnebfaa
open Go.RowKit
set_option linter.unusedVariables false
theorem ofR_one {v : VV} (h : isVV v = true) : ofR [] [v] = (0, [v]) := by
  have h1 : putE [] v = 0 := putE_zero.2 ⟨h, rfl⟩
  have h2 : putL [] v = [v] := by unfold putL; rw [if_pos h1]; rfl
  rw [ofR, if_pos h1, h2]; rfl
theorem upto_one (v : VV) (s : St) : uptoV [v] s = if cmpS v.st s ≤ 0 then 1 else 0 := by
  unfold uptoV
  rw [List.takeWhile_cons]
  by_cases h : cmpS v.st s ≤ 0
  · rw [decide_eq_true h, if_pos rfl, if_pos h]; rfl
  · rw [decide_eq_false h, if_neg (by decide), if_neg h]; rfl
theorem get_one (v : VV) (s : St) : getB [v] s = seenV v s ∧ (getB [v] s = true → getD [v] s = v.d) := by
  have h1 := upto_one v s
  by_cases h : cmpS v.st s ≤ 0
  · rw [if_pos h] at h1
    have h2 : atX [v] s = v := by unfold atX atV; rw [h1, if_neg (by decide)]; rfl
    have h3 : atB [v] s = true := by unfold atB; rw [h1]; rfl
    have h4 : getB [v] s = seenV v s := by unfold getB; rw [h3, h2, Bool.true_and]
    exact ⟨h4, fun h5 => by unfold getD; rw [if_pos h5, h2]⟩
  · rw [if_neg h] at h1
    have h3 : atB [v] s = false := by unfold atB; rw [h1]; rfl
    have h4 : getB [v] s = false := by unfold getB; rw [h3, Bool.false_and]
    have h5 : seenV v s = false := by unfold seenV; rw [decide_eq_false h, Bool.false_and]
    exact ⟨by rw [h4, h5], fun h6 => by rw [h4] at h6; cases h6⟩
/-- Seen so many milliseconds later. -/
def wantB (v : VV) (by_ ct : Int) : Bool := (!v.g && (decide (0 < by_) || (by_ == 0 && decide (v.c ≤ ct)))) && (v.t == 0 || decide (by_ < v.t))
theorem seen_want (v : VV) (by_ ct : Int) : seenV v ⟨v.m + by_, ct⟩ = wantB v by_ ct := by
  have h1 : decide (cmpS v.st ⟨v.m + by_, ct⟩ ≤ 0) = (decide (0 < by_) || (by_ == 0 && decide (v.c ≤ ct))) := by
    rw [Bool.eq_iff_iff, decide_eq_true_eq, cmpS_le, Bool.or_eq_true, decide_eq_true_eq, Bool.and_eq_true, beq_iff_eq, decide_eq_true_eq]
    simp only [VV.st]
    omega
  have h2 : v.m + by_ - v.m = by_ := by omega
  unfold seenV wantB
  rw [h1]
  simp only [h2]
  cases v.g <;> cases (decide (0 < by_) || (by_ == 0 && decide (v.c ≤ ct))) <;> simp
end Go.Proofs.Ytmliclfepnebfaa
