
/-
  octet's Writers and Readers among other things ('All').
-/
import Derived.Test.YtkdbjhmffnjimaaOctR3
import Derived.Test.YtkdbjhmffnjimaaSep
namespace Go.Proofs.Ytkdbjhmffnjimaa
open Go.RowKit

def rWr (B : Nat) (A : Option Addr) (c : Nat) (bs : List UInt8) : Res := ⟨B :: blk A, fun w => Wr w B (blk A) w A c bs⟩
theorem rWr_stable (w0 : World) (B : Nat) (A : Option Addr) (c : Nat) (bs : List UInt8) : Stable w0 (rWr B A c bs) := fun _ _ h _ hk =>
  ⟨h.at_.stable (hk B h.at_.lt (.inl (by simp [rWr]))), own_stable h.own (fun b hb hm => hk b hb (.inl (List.mem_cons_of_mem _ hm))), Chg.refl _ _, fun _ hx => .inl hx⟩
theorem wr_nodup {w : World} {B : Nat} {A : Option Addr} {c : Nat} {bs : List UInt8} {w0 : World} {S : List Nat} (h : Wr w0 B S w A c bs) : (B :: blk A).Nodup := by
  refine List.nodup_cons.2 ⟨fun hm => ?_, blk_nodup A⟩
  exact own_at_ne h.own h.at_ (by decide) B (ob A bs.length c B hm) rfl

section
variable {w0 w w' : World} {rs : List Res} {B : Nat} {A A' : Option Addr} {c c' : Nat} {bs bs' : List UInt8}
/-- A Writer has been written to. -/
theorem All.wr (h : All w0 w (rWr B A c bs :: rs)) (k : Wr w B (blk A) w' A' c' bs') : All w0 w' (rWr B A' c' bs' :: rs) :=
  h.head k.chg _ (fun b hb => by
    rcases List.mem_cons.1 hb with rfl | hb
    · exact ⟨.inl (by simp [rWr]), k.at_.lt⟩
    · refine ⟨?_, (own_in k.own b hb).2⟩
      rcases k.blk b hb with h1 | h1
      · exact .inl (List.mem_cons_of_mem _ h1)
      · exact .inr h1) (wr_nodup k) k.here (rWr_stable _ _ _ _ _)
/-- A new Writer. -/
theorem All.newWr (h : All w0 w rs) (hB : B = w.heap.size) : All w0 (w.alloc (.cells #[.slice none 0 0] 55)) (rWr B none 0 [] :: rs) := by
  subst hB
  exact h.new ((Chg.refl _ _).alloc _) _ (fun b hb => by simp [rWr, blk] at hb; subst hb; simp) (by simp [rWr, blk]) (Wr.new w).here (rWr_stable _ _ _ _ _)
end

def rRdr (T : TypeId) (B : Nat) (S : List Nat) (A : Option Addr) (c : Nat) (L : List UInt8) (b : Bool) : Res := ⟨B :: S, fun w => RrG T w B S w A c L b ∧ S.Nodup ∧ ∀ k ∈ S, k < w.heap.size⟩
theorem rRdr_stable (w0 : World) (T : TypeId) (B : Nat) (S : List Nat) (A : Option Addr) (c : Nat) (L : List UInt8) (b : Bool) : Stable w0 (rRdr T B S A c L b) := fun _ _ h hs hk =>
  ⟨⟨h.1.at_.stable (hk B h.1.at_.lt (.inl (by simp [rRdr]))), h.1.rd.stable' hs (fun h0 x hx hm => hk x hx (.inl (List.mem_cons_of_mem _ (h.1.blk h0 x hm)))), h.1.cap, Chg.refl _ _, h.1.blk, h.1.ne, h.1.err⟩, h.2.1, fun k hm => Nat.lt_of_lt_of_le (h.2.2 k hm) hs⟩

section
variable {w0 w w' : World} {rs : List Res} {T : TypeId} {B : Nat} {S : List Nat} {A A' : Option Addr} {c c' : Nat} {L L' : List UInt8} {b b' : Bool}
/-- A Reader has been taken from. -/
theorem All.rdr (h : All w0 w (rRdr T B S A c L b :: rs)) (k : RrG T w B S w' A' c' L' b') : All w0 w' (rRdr T B S A' c' L' b' :: rs) := by
  obtain ⟨h1, h2, h3⟩ := h.get 0 rfl
  have hs := k.chg.size
  have hr := h.rng 0 rfl
  refine h.head (k.chg.mono (fun x hx => .inl (by simp at hx; subst hx; simp [rRdr]))) _ (fun x hx => ⟨.inl hx, Nat.lt_of_lt_of_le (hr x hx).2 hs⟩) ?_ ⟨k.here, h2, fun x hx => Nat.lt_of_lt_of_le (h3 x hx) hs⟩ (rRdr_stable _ _ _ _ _ _ _ _)
  exact List.nodup_cons.2 ⟨h1.ne, h2⟩
/-- A Reader has been taken a row from. -/
theorem All.rdrRow (h : All w0 w (rRdr T B S A c L b :: rs)) (k : RrG T w B S w' A' c' L' b') {e : TypeId} {A2 : Option Addr} {n c2 : Nat} {xs : List Value} (ho : w'.ownsRow w.heap.size e 1 (.slice A2 n c2) n xs) : All w0 w' (rRow 0 e A2 n c2 xs :: rRdr T B S A' c' L' b' :: rs) := by
  refine (h.rdr k).insert w.heap.size h.chg.size (fun r hr x hx => ?_) _ (fun x hx => own_in ho x hx) (blk_nodup A2) (own_base ho (fun _ _ => Nat.zero_le _)) (rRow_stable _ _ _ _ _ _ _)
  rcases List.mem_cons.1 hr with rfl | hr
  · exact (h.range (rRdr T B S A c L b) (by simp) x hx).2
  · exact (h.range r (List.mem_cons_of_mem _ hr) x hx).2
/-- A new Reader. -/
theorem All.newRdr (h : All w0 w rs) (k : RrG T w' B S w' A c L b) (hc : Chg [] w w') (hB : w.heap.size ≤ B) (hS : ∀ x ∈ S, w.heap.size ≤ x ∧ x < w'.heap.size) (hn : S.Nodup) : All w0 w' (rRdr T B S A c L b :: rs) :=
  h.new hc _ (fun x hx => by
    rcases List.mem_cons.1 hx with rfl | hx
    · exact ⟨hB, k.at_.lt⟩
    · exact hS x hx) (List.nodup_cons.2 ⟨k.ne, hn⟩) ⟨k, hn, fun x hx => (hS x hx).2⟩ (rRdr_stable _ _ _ _ _ _ _ _)
end

section
variable {w0 w w' : World} {rs : List Res} {A A' : Option Addr} {e : TypeId} {base n m c c' : Nat} {xs ys : List Value}
/-- A row has been appended to. -/
theorem All.grown (h : All w0 w (rRow base e A n c xs :: rs)) (hg : w.grownBy w' (Value.slice A n c).ownBlock) (hb : blk A' = (Value.slice A n c).ownBlock.toList ∨ blk A' = [w.heap.size]) (ho : w'.ownsRow base e 1 (.slice A' m c') m ys) : All w0 w' (rRow base e A' m c' ys :: rs) :=
  h.head ((Chg.of_grown hg).mono (fun x hx => .inl (by rw [own_blk] at hx; exact hx))) _ (fun x hx => ⟨by
    rcases hb with h1 | h1
    · exact .inl (by rw [own_blk] at h1; show x ∈ blk A; rw [← h1]; exact hx)
    · refine .inr ?_
      have hx' : x ∈ blk A' := hx
      rw [h1] at hx'; simp at hx'; omega, (own_in ho x hx).2⟩) (blk_nodup A') ho (rRow_stable _ _ _ _ _ _ _)
end
end Go.Proofs.Ytkdbjhmffnjimaa
