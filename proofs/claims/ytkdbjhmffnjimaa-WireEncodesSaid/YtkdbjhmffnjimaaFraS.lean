
/-
  One and Scan, of both.
-/
import Derived.Test.YtkdbjhmffnjimaaFraD2
namespace Go.Proofs.Ytkdbjhmffnjimaa
open Go.RowKit
set_option linter.unusedVariables false

def oneF (L : List UInt8) : List UInt8 × Nat := if (decF L).e = 0 ∧ (decF L).n ≠ L.length then ([], 3) else ((decF L).p, (decF L).e)
def OneFPost (w : World) (t : List UInt8 × Nat) (e : Ending) (w' : World) : Prop := ∃ A c, e = .returned (.tuple #[.slice A t.1.length c, .int .i64 t.2]) ∧ w'.ownsRow w.heap.size 5 1 (.slice A t.1.length c) t.1.length (cB t.1) ∧ Chg [] w w'
theorem oneF_3 {L : List UInt8} (h : (decF L).e = 0) (h2 : (decF L).n ≠ L.length) : oneF L = ([], 3) := by unfold oneF; rw [if_pos ⟨h, h2⟩]
theorem oneF_0 {L : List UInt8} (h : (decF L).e = 0) (h2 : (decF L).n = L.length) : oneF L = ((decF L).p, 0) := by unfold oneF; rw [if_neg (by simp [h2]), h]
theorem oneF_e {L : List UInt8} (h : (decF L).e ≠ 0) : oneF L = ([], (decF L).e) := by unfold oneF; rw [if_neg (by simp [h]), (decF_bad h).1]
theorem OneFPost.bad {w w' : World} {t : List UInt8 × Nat} (n : Nat) (ht : t = ([], n)) (h : Chg [] w w') : OneFPost w t (.returned (.tuple #[.slice none 0 0, .int .i64 n])) w' := by
  subst ht
  exact ⟨none, 0, rfl, own_none _ _ _ _, h⟩
theorem OneFPost.is {w w' : World} {t : List UInt8 × Nat} {A : Option Addr} {n c : Nat} {z : Int} (p : List UInt8) (k : Nat) (ht : t = (p, k)) (hn : p.length = n) (hz : z = (k : Int)) (ho : w'.ownsRow w.heap.size 5 1 (.slice A n c) n (cB p)) (h : Chg [] w w') : OneFPost w t (.returned (.tuple #[.slice A n c, .int .i64 z])) w' := by
  subst ht hn hz
  exact ⟨A, c, rfl, ho, h⟩

set_option maxRecDepth 100000 in
set_option maxHeartbeats 1600000 in
theorem frOne_any (w : World) (A : Option Addr) (n c : Nat) (L : List UInt8) (hn : L.length = n) (hr : Rd w 1 A L.length (cB L)) (hc : L.length ≤ c) (hl : L.length ≤ 1099511627776) :
    Calls Try.prog 32 #[.slice A n c] w (OneFPost w (oneF L)) := by
  subst hn
  have h3 := Lib.hid (oneF_3 (L := L))
  have h0 := Lib.hid (oneF_0 (L := L))
  have he := Lib.hid (oneF_e (L := L))
  have HD := frDecode_any w A _ c L rfl hr hc hl
  obtain ⟨t, ht⟩ : ∃ t, Hid (decF L = t) := ⟨_, rfl⟩
  have hb := Lib.hid (decF_bad (L := L))
  rw [ht.out] at h3 h0 he HD hb
  obtain ⟨u, hu⟩ : ∃ u, Hid (oneF L = u) := ⟨_, rfl⟩
  rw [hu.out] at h3 h0 he ⊢
  obtain ⟨p, m, x⟩ := t
  simp only at h3 h0 he hb
  have HD' := Lib.hid HD
  clear HD hr hc
  go_enter Try.func32, Try.ntmps32
  go_wp2_with (fail)
  refine HD'.out.mono ?_
  rintro e w1 ⟨A1, c1, rfl, hown1, hch1⟩
  simp only at hown1 ⊢
  have hpl := Lib.hid (rfl : p.length = p.length)
  by_cases hx : x = 0
  · have hbx : ((x : Int) == 0) = true := by rw [hx]; rfl
    by_cases hm : m = L.length
    · have hbm : ((m : Int) != (L.length : Int)) = false := by rw [hm]; simp
      have Hx := Lib.hid hx
      have Hm := Lib.hid hm
      clear hx hm
      go_wp2_with (fail)
      go_ret2
      exact OneFPost.is p 0 (h0.out Hx.out Hm.out) rfl (by have := Hx.out; omega) hown1 hch1
    · have hbm : ((m : Int) != (L.length : Int)) = true := by rw [bne_iff_ne]; omega
      have Hx := Lib.hid hx
      have Hm := Lib.hid hm
      clear hx hm
      go_wp2_with (fail)
      go_ret2
      exact OneFPost.bad 3 (h3.out Hx.out Hm.out) hch1
  · have hbx : ((x : Int) == 0) = false := by rw [beq_eq_false_iff_ne]; omega
    have Hx := Lib.hid hx
    clear hx
    go_wp2_with (fail)
    go_ret2
    obtain ⟨rfl, rfl⟩ := hb.out Hx.out
    exact OneFPost.is [] x (he.out Hx.out) rfl rfl hown1 hch1

/-! ### Scan -/

theorem own_ne {w : World} {b b' : Nat} {e e' : TypeId} {s s' n n' : Nat} {v v' : Value} {xs ys : List Value} (h : w.ownsRow b e s v n xs) (h' : w.ownsRow b' e' s' v' n' ys) (hne : e ≠ e') : ∀ k, v.ownBlock = some k → v'.ownBlock ≠ some k := by
  intro k hk hk'
  rcases h'.2 with ⟨rfl, _⟩ | ⟨g', cap, cur, rfl, _, hh, _⟩
  · simp [Value.ownBlock] at hk'
  · have hg : g' = k := by simpa [Value.ownBlock] using hk'
    subst hg
    exact own_at_ne h (show At w g' e' cur from hh) hne _ hk rfl
/-- Rows of bytes, a row of their own each. -/
def OwnB (w : World) (base : Nat) (r : SlB) : Prop := w.ownsRow base 5 1 (.slice r.A r.bs.length r.c) r.bs.length (cB r.bs)
def ScanPost (w : World) (L : List UInt8) (e : Ending) (w' : World) : Prop := ∃ A c ls, e = .returned (.tuple #[.slice A ls.length c, .int .i64 ((scanF L).2 : Nat)]) ∧ ls.map SlB.bs = (scanF L).1 ∧ w'.ownsRow w.heap.size 28 1 (.slice A ls.length c) ls.length (cR ls) ∧ (∀ r ∈ ls, OwnB w' w.heap.size r) ∧ Chg [] w w'
theorem info_b : (Try.prog.info? 28).map (fun i => (i.zero, i.size, i.bytes)) = some (some (.slice none 0 0), 1, 24) := by kernel_rfl
theorem cR_app (a b : List SlB) : cR (a ++ b) = cR a ++ cR b := by simp [cR]

end Go.Proofs.Ytkdbjhmffnjimaa
