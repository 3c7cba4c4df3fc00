/-
  What stays true of a Clock; both kinds of Clock side by side.
-/
import Derived.Test.YtaamdgimjbgeeaaHlcN
import Derived.Test.YtaamdgimjbgeeaaHlcT
import Derived.Test.YtaamdgimjbgeeaaOpenI
namespace Go.Proofs.Ytaamdgimjbgeeaa
open Go.RowKit

theorem sendL_ok {l : St} {b n : Int} (h : ClkI l b) : ClkI (sendL l b n) b := by
  obtain ⟨a0, a1, a2, a3, a4, a5⟩ := h
  unfold sendL
  by_cases hz : (sendF l b n).2 = 0
  · rw [if_pos hz]
    revert hz
    unfold sendF
    split
    · intro h; simp at h
    · split
      · intro h; simp at h
      · split
        · intro h; simp at h
        · intro hq
          rename_i h1 h2 h3
          simp only
          unfold nextS at h2 h3 ⊢
          by_cases hle : n ≤ l.m
          · rw [if_pos hle] at h2 h3 ⊢
            simp only at h2 h3
            exact ClkI.mk' (by omega)
          · rw [if_neg hle] at h2 h3 ⊢
            simp only at h2 h3
            exact ClkI.mk' (by omega)
  · rw [if_neg hz]; exact ⟨a0, a1, a2, a3, a4, a5⟩
theorem raiseB_ok {l : St} {b n : Int} (h : ClkI l b) : ClkI l (raiseB b n) := by
  obtain ⟨a0, a1, a2, a3, a4, a5⟩ := h
  unfold raiseB
  split
  · exact ⟨a0, a1, a2, a3, a4, a5⟩
  · exact ⟨a0, a1, a2, a3, by omega, by omega⟩
theorem hearL_ok {l : St} {b n : Int} {xs : List St} (h : ClkI l b) : ClkI (hearL l n xs) b := by
  have h' := h
  obtain ⟨a0, a1, a2, a3, a4, a5⟩ := h
  unfold hearL
  by_cases hz : hearF n xs = 0
  · rw [if_pos hz]
    obtain ⟨s, hs, e⟩ := (maxS_spec (xs ++ [l])).1 (by simp)
    rw [e]
    rcases List.mem_append.1 hs with hs | hs
    · have hall : xs.all (fun s => isS s.m s.c) = true := by
        cases hb : xs.all (fun s => isS s.m s.c)
        · exfalso
          revert hz
          unfold hearF
          rw [hb]
          split
          · intro h; simp at h
          · rw [if_pos rfl]; intro h; simp at h
        · rfl
      rw [List.all_eq_true] at hall
      have h1 := isS_iff.1 (hall s hs)
      exact ⟨h1.1, h1.2.1, h1.2.2.1, h1.2.2.2, a4, a5⟩
    · obtain rfl := List.mem_singleton.1 hs
      exact h'
  · rw [if_neg hz]; exact h'
theorem refSend_to (w : World) (B : Nat) (l : St) (b n : Int) {r : St × Int} {l' : St} (hA : At w B 65 (clkC l b)) (hI : ClkI l b) (h1 : sendF l b n = r) (h2 : sendL l b n = l') :
    Calls Try.prog 30 #[.pointer (some ⟨B, 0, none⟩), .int .i64 n] w (SendPost w B 65 r l' b) := by
  subst h1 h2; exact refSend_any w B l b n hA hI
theorem refRaise_to (w : World) (B : Nat) (l : St) (b n : Int) {r b' : Int} (hA : At w B 65 (clkC l b)) (h1 : raiseF b n = r) (h2 : raiseB b n = b') :
    Calls Try.prog 32 #[.pointer (some ⟨B, 0, none⟩), .int .i64 n] w fun e w' => e = .returned (.int .i64 r) ∧ At w' B 65 (clkC l b') ∧ Chg [B] w w' := by
  subst h1 h2; exact refRaise_any w B l b n hA
theorem refHear_to (w : World) (B : Nat) (l : St) (b n : Int) (A : Option Addr) (k c : Nat) (xs : List St) {r : Int} {l' : St} (hA : At w B 65 (clkC l b)) (hk : xs.length = k) (hr : Rd w 2 A xs.length (cS xs)) (hAw : Away A xs.length [B]) (hl : xs.length ≤ 65536) (h1 : hearF n xs = r) (h2 : hearL l n xs = l') :
    Calls Try.prog 31 #[.pointer (some ⟨B, 0, none⟩), .int .i64 n, .slice A k c] w fun e w' => e = .returned (.int .i64 r) ∧ At w' B 65 (clkC l' b) ∧ Chg [B] w w' := by
  subst h1 h2; exact refHear_any w B l b n A k c xs hk hA hr hAw hl
end Go.Proofs.Ytaamdgimjbgeeaa
