/-
  PLAIN: is a stamp among the first of some?
-/
import Derived.Test.YtaamdgimjbgeeaaStamp
namespace Go.Proofs.Ytaamdgimjbgeeaa
def St.eqB (a b : St) : Bool := a.m == b.m && a.c == b.c
theorem St.eqB_iff {a b : St} : St.eqB a b = true ↔ a = b := by
  unfold St.eqB
  constructor
  · intro h; simp at h; exact St.ext' h.1 h.2
  · rintro rfl; simp
/-- There is none, or it is among the first k. -/
def seenB (l : List St) (M : St) (k : Nat) : Bool := decide (l.length = 0) || (l.take k).any (fun s => St.eqB s M)
theorem seenB_zero (l : List St) (M : St) : seenB l M 0 = decide (l.length = 0) := by simp [seenB]
theorem seenB_succ (l : List St) (M : St) {k : Nat} (h : k < l.length) : seenB l M (k + 1) = (seenB l M k || St.eqB l[k] M) := by
  unfold seenB
  rw [List.take_succ_eq_append_getElem h, List.any_append, Bool.or_assoc]
  simp
theorem seenB_all (l : List St) (M : St) (h : 0 < l.length → ∃ s, s ∈ l ∧ M = s) : seenB l M l.length = true := by
  unfold seenB
  rw [List.take_length, Bool.or_eq_true]
  rcases Nat.eq_zero_or_pos l.length with h0 | h0
  · left; simpa using h0
  · right
    obtain ⟨s, hs, rfl⟩ := h h0
    rw [List.any_eq_true]
    exact ⟨M, hs, St.eqB_iff.2 rfl⟩
end Go.Proofs.Ytaamdgimjbgeeaa
