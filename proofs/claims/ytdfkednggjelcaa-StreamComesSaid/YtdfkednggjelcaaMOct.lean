
/-
  Several texts in one: OctR, OctR2, OctR3, OctAll.
-/
import Derived.Test.YtdfkednggjelcaaOctW
import Derived.Test.YtdfkednggjelcaaSep
namespace Go.Proofs.Ytdfkednggjelcaa
open Go.RowKit
attribute [local go_sem ↓] run_min2 run_max2

/-- A Reader at block B: the bytes that are left, whether it erred; its bytes lie in blocks of S; only it has changed since w0. -/
structure RrG (Ty : TypeId) (w0 : World) (B : Nat) (S : List Nat) (w : World) (A : Option Addr) (c : Nat) (rest : List UInt8) (bad : Bool) : Prop where
  at_ : At w B Ty #[.slice A rest.length c, .bool bad]
  rd : Rd w 1 A rest.length (cB rest)
  cap : rest.length ≤ c
  chg : Chg [B] w0 w
  blk : 0 < rest.length → ∀ k, k ∈ blk A → k ∈ S
  ne : B ∉ S
  err : bad = true → rest = []

theorem RrG.setOf {Ty : TypeId} {w0 : World} {B : Nat} {S : List Nat} {w : World} {A A' : Option Addr} {c c' : Nat} {L L' : List UInt8} {b : Bool} {n : Nat} (h : RrG Ty w0 B S w A c L b) (hn : n = L'.length) (hr : Rd w 1 A' L'.length (cB L')) (hc : L'.length ≤ c') (hb : 0 < L'.length → ∀ k, k ∈ Go.Proofs.Ytdfkednggjelcaa.blk A' → k ∈ S) (he : b = true → L' = []) :
    RrG Ty w0 B S (w.setCell ⟨B, 0, none⟩ (.slice A' n c')) A' c' L' b := by
  subst hn
  exact ⟨h.at_.set_ 0 _, hr.keep (S := [B]) ((Chg.refl _ _).setCell (.inl (by simp)) _) (fun h0 k hk hm => by
    have h1 := hb h0 k hk
    have h2 := h.ne
    simp at hm
    exact h2 (hm ▸ h1)), hc, h.chg.setCell (.inl (by simp)) _, hb, h.ne, he⟩

/-- A number taken off: the number, what is left, whether it erred. -/
def takeNum (L : List UInt8) (b : Bool) : Nat × List UInt8 × Bool :=
  match dec L with
  | some (n, r) => (n, r, b)
  | none => (0, [], true)

theorem take_none {L : List UInt8} {b : Bool} (h : dec L = none) : takeNum L b = (0, [], true) := by unfold takeNum; rw [h]
theorem take_some {L r : List UInt8} {b : Bool} {n : Nat} (h : dec L = some (n, r)) : takeNum L b = (n, r, b) := by unfold takeNum; rw [h]

theorem and127 (c : UInt8) : bits .and .u8 (c.toNat : Int) 127 = ((c.toNat % 128 : Nat) : Int) := by
  rw [show (127 : Int) = ((127 : Nat) : Int) by rfl, u8_and_nat _ _ c.toNat_lt (by omega), show (127 : Nat) = 2 ^ 7 - 1 by rfl, Nat.and_two_pow_sub_one_eq_mod]
theorem or64 {x c k : Nat} (hx : x < 128 ^ k) (hk : k < 9) : bits .or .u64 (x : Int) (IntKind.u64.wrap ((c : Int) % 128 * 2 ^ (7 * k))) = ((x + c % 128 * 128 ^ k : Nat) : Int) := by
  have e : (128 : Nat) ^ k = 2 ^ (7 * k) := by rw [show (128 : Nat) = 2 ^ 7 by rfl, ← Nat.pow_mul]
  have hle : (2 : Nat) ^ (7 * k) ≤ 2 ^ 56 := Nat.pow_le_pow_right (by omega) (by omega)
  have h56 : (2 : Nat) ^ 56 = 72057594037927936 := by decide
  rw [e] at hx ⊢
  have hm : c % 128 * 2 ^ (7 * k) ≤ 127 * 2 ^ (7 * k) := Nat.mul_le_mul_right _ (by omega)
  have hw : IntKind.u64.wrap ((c : Int) % 128 * 2 ^ (7 * k)) = ((c % 128 * 2 ^ (7 * k) : Nat) : Int) := by
    have h1 : (c : Int) % 128 * 2 ^ (7 * k) = ((c % 128 * 2 ^ (7 * k) : Nat) : Int) := by simp
    rw [h1]
    generalize c % 128 * 2 ^ (7 * k) = y at *
    show ((y : Int) % 18446744073709551616) = _
    omega
  have h64 : c % 128 * 2 ^ (7 * k) < 2 ^ 64 := by have : (2 : Nat) ^ 64 = 18446744073709551616 := by decide
                                                  omega
  rw [hw, u64_or_nat _ _ (by omega) (by omega), Nat.mul_comm, Nat.or_comm, ← Nat.two_pow_add_eq_or_of_lt hx, Nat.add_comm, Nat.mul_comm]

end Go.Proofs.Ytdfkednggjelcaa
namespace Go.Proofs.Ytdfkednggjelcaa
open Go.RowKit
attribute [local go_sem ↓] run_min2 run_max2

theorem RrG.keep {Ty : TypeId} {w0 : World} {B : Nat} {S : List Nat} {w w' : World} {A : Option Addr} {c : Nat} {L : List UInt8} {b : Bool} (h : RrG Ty w0 B S w A c L b) {T : List Nat} (hc : Chg T w w')
    (hT : ∀ k, k ∈ T → k ≠ B ∧ k ∉ S ∧ w0.heap.size ≤ k) : RrG Ty w0 B S w' A c L b :=
  ⟨h.at_.keep hc (fun hm => (hT B hm).1 rfl), h.rd.keep hc (fun h0 k hk hm => (hT k hm).2.1 (h.blk h0 k hk)), h.cap, h.chg.trans hc (fun k hk => .inr (hT k hk).2.2), h.blk, h.ne, h.err⟩
theorem RrG.here {Ty : TypeId} {w0 : World} {B : Nat} {S : List Nat} {w : World} {A : Option Addr} {c : Nat} {L : List UInt8} {b : Bool} (h : RrG Ty w0 B S w A c L b) : RrG Ty w B S w A c L b :=
  ⟨h.at_, h.rd, h.cap, Chg.refl _ _, h.blk, h.ne, h.err⟩
theorem RrG.trans {Ty : TypeId} {w0 : World} {B : Nat} {S : List Nat} {w w' : World} {A A' : Option Addr} {c c' : Nat} {L L' : List UInt8} {b b' : Bool} (h : RrG Ty w0 B S w A c L b) (k : RrG Ty w B S w' A' c' L' b') : RrG Ty w0 B S w' A' c' L' b' :=
  ⟨k.at_, k.rd, k.cap, h.chg.trans k.chg (fun _ hx => .inl hx), k.blk, k.ne, k.err⟩
theorem RrG.keep0 {Ty : TypeId} {w0 : World} {B : Nat} {S : List Nat} {w w' : World} {A : Option Addr} {c : Nat} {L : List UInt8} {b : Bool} (h : RrG Ty w0 B S w A c L b) (hc : Chg [] w w') : RrG Ty w0 B S w' A c L b :=
  h.keep hc (by simp)

/-- So many bytes taken off. -/
def takeRaw (L : List UInt8) (b : Bool) (n : Int) : List UInt8 × List UInt8 × Bool :=
  if 0 ≤ n ∧ n ≤ (L.length : Int) then (L.take n.toNat, L.drop n.toNat, b) else ([], [], true)

/-- A row taken off. -/
def takeRow (L : List UInt8) (b : Bool) : List UInt8 × List UInt8 × Bool := takeRaw (takeNum L b).2.1 (takeNum L b).2.2 ((takeNum L b).1 : Int)
theorem takeNum_len (L : List UInt8) (b : Bool) : (takeNum L b).2.1.length ≤ L.length := by
  unfold takeNum
  split
  · rename_i h; exact Nat.le_of_lt (dec_len h)
  · simp
theorem takeRaw_len (L : List UInt8) (b : Bool) (n : Int) : (takeRaw L b n).2.1.length ≤ L.length ∧ (takeRaw L b n).1.length ≤ L.length := by
  unfold takeRaw
  split <;> simp <;> omega

theorem len0 (L : List UInt8) : ((L.length : Int) == 0) = decide (L = []) := by
  cases L
  · rfl
  · simp; omega
end Go.Proofs.Ytdfkednggjelcaa
namespace Go.Proofs.Ytdfkednggjelcaa
open Go.RowKit

/-- Behind k numbers: what is left, whether it erred. -/
def numsSt (L : List UInt8) (b : Bool) : Nat → List UInt8 × Bool
  | 0 => (L, b)
  | k + 1 => (takeNum (numsSt L b k).1 (numsSt L b k).2).2
/-- The number of that place. -/
def numAt (L : List UInt8) (b : Bool) (k : Nat) : Nat := (takeNum (numsSt L b k).1 (numsSt L b k).2).1
theorem numsSt_len (L : List UInt8) (b : Bool) (k : Nat) : (numsSt L b k).1.length ≤ L.length := by
  induction k with
  | zero => exact Nat.le_refl _
  | succ k ih => exact Nat.le_trans (takeNum_len _ _) ih

/-- The cells of pointers. -/
def cP (l : List (Option Addr)) : List Value := l.map Value.pointer
theorem cP_get {l : List (Option Addr)} {k : Nat} (h : k < l.length) : (cP l)[k]? = some (.pointer l[k]) := by simp [cP, h]

end Go.Proofs.Ytdfkednggjelcaa
namespace Go.Proofs.Ytdfkednggjelcaa
open Go.RowKit

def rWr (B : Nat) (A : Option Addr) (c : Nat) (bs : List UInt8) : Res := ⟨B :: blk A, fun w => Wr w B (blk A) w A c bs⟩
theorem rWr_stable (w0 : World) (B : Nat) (A : Option Addr) (c : Nat) (bs : List UInt8) : Stable w0 (rWr B A c bs) := fun _ _ h _ hk =>
  ⟨h.at_.stable (hk B h.at_.lt (.inl (by simp [rWr]))), own_stable h.own (fun b hb hm => hk b hb (.inl (List.mem_cons_of_mem _ hm))), Chg.refl _ _, fun _ hx => .inl hx⟩
theorem wr_nodup {w : World} {B : Nat} {A : Option Addr} {c : Nat} {bs : List UInt8} {w0 : World} {S : List Nat} (h : Wr w0 B S w A c bs) : (B :: blk A).Nodup := by
  refine List.nodup_cons.2 ⟨fun hm => ?_, blk_nodup A⟩
  exact own_at_ne h.own h.at_ (by decide) B (ob A bs.length c B hm) rfl

section
variable {w0 w w' : World} {rs : List Res} {B : Nat} {A A' : Option Addr} {c c' : Nat} {bs bs' : List UInt8}
/-- A Writer has been written to. -/
theorem All.wr (h : All w0 w (rWr B A c bs :: rs)) (k : Wr w B (blk A) w' A' c' bs') : All w0 w' (rWr B A' c' bs' :: rs) :=
  h.head k.chg _ (fun b hb => by
    rcases List.mem_cons.1 hb with rfl | hb
    · exact ⟨.inl (by simp [rWr]), k.at_.lt⟩
    · refine ⟨?_, (own_in k.own b hb).2⟩
      rcases k.blk b hb with h1 | h1
      · exact .inl (List.mem_cons_of_mem _ h1)
      · exact .inr h1) (wr_nodup k) k.here (rWr_stable _ _ _ _ _)
/-- A new Writer. -/
theorem All.newWr (h : All w0 w rs) (hB : B = w.heap.size) : All w0 (w.alloc (.cells #[.slice none 0 0] 110)) (rWr B none 0 [] :: rs) := by
  subst hB
  exact h.new ((Chg.refl _ _).alloc _) _ (fun b hb => by simp [rWr, blk] at hb; subst hb; simp) (by simp [rWr, blk]) (Wr.new w).here (rWr_stable _ _ _ _ _)
end

def rRdr (T : TypeId) (B : Nat) (S : List Nat) (A : Option Addr) (c : Nat) (L : List UInt8) (b : Bool) : Res := ⟨B :: S, fun w => RrG T w B S w A c L b ∧ S.Nodup ∧ ∀ k ∈ S, k < w.heap.size⟩
theorem rRdr_stable (w0 : World) (T : TypeId) (B : Nat) (S : List Nat) (A : Option Addr) (c : Nat) (L : List UInt8) (b : Bool) : Stable w0 (rRdr T B S A c L b) := fun _ _ h hs hk =>
  ⟨⟨h.1.at_.stable (hk B h.1.at_.lt (.inl (by simp [rRdr]))), h.1.rd.stable' hs (fun h0 x hx hm => hk x hx (.inl (List.mem_cons_of_mem _ (h.1.blk h0 x hm)))), h.1.cap, Chg.refl _ _, h.1.blk, h.1.ne, h.1.err⟩, h.2.1, fun k hm => Nat.lt_of_lt_of_le (h.2.2 k hm) hs⟩

section
variable {w0 w w' : World} {rs : List Res} {T : TypeId} {B : Nat} {S : List Nat} {A A' : Option Addr} {c c' : Nat} {L L' : List UInt8} {b b' : Bool}
/-- A Reader has been taken from. -/
theorem All.rdr (h : All w0 w (rRdr T B S A c L b :: rs)) (k : RrG T w B S w' A' c' L' b') : All w0 w' (rRdr T B S A' c' L' b' :: rs) := by
  obtain ⟨h1, h2, h3⟩ := h.get 0 rfl
  have hs := k.chg.size
  have hr := h.rng 0 rfl
  refine h.head (k.chg.mono (fun x hx => .inl (by simp at hx; subst hx; simp [rRdr]))) _ (fun x hx => ⟨.inl hx, Nat.lt_of_lt_of_le (hr x hx).2 hs⟩) ?_ ⟨k.here, h2, fun x hx => Nat.lt_of_lt_of_le (h3 x hx) hs⟩ (rRdr_stable _ _ _ _ _ _ _ _)
  exact List.nodup_cons.2 ⟨h1.ne, h2⟩
/-- A Reader has been taken a row from. -/
theorem All.rdrRow (h : All w0 w (rRdr T B S A c L b :: rs)) (k : RrG T w B S w' A' c' L' b') {e : TypeId} {A2 : Option Addr} {n c2 : Nat} {xs : List Value} (ho : w'.ownsRow w.heap.size e 1 (.slice A2 n c2) n xs) : All w0 w' (rRow 0 e A2 n c2 xs :: rRdr T B S A' c' L' b' :: rs) := by
  refine (h.rdr k).insert w.heap.size h.chg.size (fun r hr x hx => ?_) _ (fun x hx => own_in ho x hx) (blk_nodup A2) (own_base ho (fun _ _ => Nat.zero_le _)) (rRow_stable _ _ _ _ _ _ _)
  rcases List.mem_cons.1 hr with rfl | hr
  · exact (h.range (rRdr T B S A c L b) (by simp) x hx).2
  · exact (h.range r (List.mem_cons_of_mem _ hr) x hx).2
/-- A new Reader. -/
theorem All.newRdr (h : All w0 w rs) (k : RrG T w' B S w' A c L b) (hc : Chg [] w w') (hB : w.heap.size ≤ B) (hS : ∀ x ∈ S, w.heap.size ≤ x ∧ x < w'.heap.size) (hn : S.Nodup) : All w0 w' (rRdr T B S A c L b :: rs) :=
  h.new hc _ (fun x hx => by
    rcases List.mem_cons.1 hx with rfl | hx
    · exact ⟨hB, k.at_.lt⟩
    · exact hS x hx) (List.nodup_cons.2 ⟨k.ne, hn⟩) ⟨k, hn, fun x hx => (hS x hx).2⟩ (rRdr_stable _ _ _ _ _ _ _ _)
end

section
variable {w0 w w' : World} {rs : List Res} {A A' : Option Addr} {e : TypeId} {base n m c c' : Nat} {xs ys : List Value}
/-- A row has been appended to. -/
theorem All.grown (h : All w0 w (rRow base e A n c xs :: rs)) (hg : w.grownBy w' (Value.slice A n c).ownBlock) (hb : blk A' = (Value.slice A n c).ownBlock.toList ∨ blk A' = [w.heap.size]) (ho : w'.ownsRow base e 1 (.slice A' m c') m ys) : All w0 w' (rRow base e A' m c' ys :: rs) :=
  h.head ((Chg.of_grown hg).mono (fun x hx => .inl (by rw [own_blk] at hx; exact hx))) _ (fun x hx => ⟨by
    rcases hb with h1 | h1
    · exact .inl (by rw [own_blk] at h1; show x ∈ blk A; rw [← h1]; exact hx)
    · refine .inr ?_
      have hx' : x ∈ blk A' := hx
      rw [h1] at hx'; simp at hx'; omega, (own_in ho x hx).2⟩) (blk_nodup A') ho (rRow_stable _ _ _ _ _ _ _)
end
end Go.Proofs.Ytdfkednggjelcaa
