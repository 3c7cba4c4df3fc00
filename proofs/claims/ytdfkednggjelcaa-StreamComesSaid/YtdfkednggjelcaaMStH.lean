
/-
  Several texts in one: HlcM, HlcPack.
-/
import Derived.Test.YtdfkednggjelcaaMStamp
import Derived.Laws.Rows
namespace Go.Proofs.Ytdfkednggjelcaa
open Go.RowKit

/-- A stamp that stands in a slice. -/
theorem Rd.getS {w : World} {A : Option Addr} {n : Nat} {l : List St} (h : Rd w 2 A n (cS l)) {k : Nat} (hk : k < l.length) :
    ∃ ad, A = some ad ∧ ad.block < w.heap.size ∧ w.cell? (ad.add (k * 2)) = some (.int .i64 l[k].m) ∧ w.cell? ⟨(ad.add (k * 2)).block, (ad.add (k * 2)).off + 1, none⟩ = some (.int .i64 l[k].c) := by
  have hn : n = l.length := by have := h.len; rw [cS_len] at this; omega
  obtain ⟨ad, e, hb, hc⟩ := h.at_ (by omega)
  obtain ⟨h1, h2⟩ := cS_get hk
  exact ⟨ad, e, hb, hc _ _ h1, by have h3 := hc _ _ h2; rw [← add_add] at h3; exact h3⟩

theorem At.set2 {w : World} {g : Nat} {t : TypeId} {a b : Value} (h : At w g t #[a, b]) (u v : Value) : At ((w.setCell ⟨g, 0, none⟩ u).setCell ⟨g, 1, none⟩ v) g t #[u, v] := by
  simpa using (h.set_ 0 u).set_ 1 v
theorem At.set3 {w : World} {g : Nat} {t : TypeId} {a b c : Value} (h : At w g t #[a, b, c]) (u v : Value) : At ((w.setCell ⟨g, 0, none⟩ u).setCell ⟨g, 1, none⟩ v) g t #[u, v, c] := by
  simpa using (h.set_ 0 u).set_ 1 v
theorem Chg.set2 {S : List Nat} {w0 w : World} (h : Chg S w0 w) {g : Nat} (hg : g ∈ S ∨ w0.heap.size ≤ g) (u v : Value) : Chg S w0 ((w.setCell ⟨g, 0, none⟩ u).setCell ⟨g, 1, none⟩ v) :=
  (h.setCell (p := ⟨g, 0, none⟩) hg u).setCell (p := ⟨g, 1, none⟩) hg v
theorem At.st {w : World} {g : Nat} {T : TypeId} {a b : Value} (h : At w g T #[a, b]) : w.cell? ⟨g, 0, none⟩ = some a ∧ w.cell? ⟨g, 1, none⟩ = some b ∧ g < w.heap.size := ⟨h.cell 0, h.cell 1, h.lt⟩
theorem st_size : (Try.prog.info? 46).map (·.size) = some 2 := by kernel_rfl
/-- A stamp is handed back. -/
theorem ret_st {fn : Func} {p : Tmp} {tmps : Array Value} {w : World} {g : Nat} {T : TypeId} {m c : Int} {Post : Ending → World → Prop} (h : fn.results = #[.cell p 46])
    (hp : tmps.getD p undef = .pointer (some ⟨g, 0, none⟩)) (hg : At w g T #[.int .i64 m, .int .i64 c]) (hpost : Post (.returned (.agg #[.int .i64 m, .int .i64 c])) w) :
    bodyPost Try.prog fn Post Exit.ret ⟨tmps, []⟩ w :=
  bodyPost_ret (v := .agg #[.int .i64 m, .int .i64 c]) (results_cell_row h tmps w g T _ (0, 0) _ hp hg Try.underlying46 rfl st_size) rfl hpost

/-- A stamp and something else are handed back. -/
theorem ret_st2 {fn : Func} {p q : Tmp} {tmps : Array Value} {w : World} {g : Nat} {T : TypeId} {m c : Int} {v : Value} {Post : Ending → World → Prop} (h : fn.results = #[.cell p 46, .tmp q])
    (hp : tmps.getD p undef = .pointer (some ⟨g, 0, none⟩)) (hq : tmps.getD q undef = v) (hg : At w g T #[.int .i64 m, .int .i64 c]) (hpost : Post (.returned (.tuple #[.agg #[.int .i64 m, .int .i64 c], v])) w) :
    bodyPost Try.prog fn Post Exit.ret ⟨tmps, []⟩ w := by
  refine bodyPost_ret (v := .tuple #[.agg #[.int .i64 m, .int .i64 c], v]) ?_ rfl hpost
  have hp' : tmps[p]?.getD undef = .pointer (some ⟨g, 0, none⟩) := by simpa using hp
  have hq' : tmps[q]?.getD undef = v := by simpa using hq
  simp [results, h, hp', hq', asAddr, run_loadVar_row w g T 46 _ (0, 0) _ hg Try.underlying46 rfl st_size]

end Go.Proofs.Ytdfkednggjelcaa
namespace Go.Proofs.Ytdfkednggjelcaa
open Go.RowKit

theorem or_pack (m c : Nat) (hm : m ≤ 281474976710655) (hc : c ≤ 65535) : bits .or .u64 ((m : Int) * 65536) (c : Int) = (m : Int) * 65536 + c := by
  rw [show (m : Int) * 65536 = ((2 ^ 16 * m : Nat) : Int) by omega, u64_or_nat _ _ (by omega) (by omega), ← Nat.two_pow_add_eq_or_of_lt (by omega)]; omega
theorem and_low (x : Nat) (h : x < 18446744073709551616) : bits .and .u64 (x : Int) 65535 = (x : Int) % 65536 := by
  rw [show (65535 : Int) = ((65535 : Nat) : Int) by rfl, u64_and_nat _ _ h (by omega), show (65535 : Nat) = 2 ^ 16 - 1 by rfl, Nat.and_two_pow_sub_one_eq_mod]; omega

set_option maxHeartbeats 1600000 in
theorem pack_no (w : World) (m c : Int) (h : isS m c = false) :
    Calls Try.prog 51 #[.agg #[.int .i64 m, .int .i64 c]] w fun e w' => e = .returned (.tuple #[.int .u64 0, .int .i64 1]) ∧ Chg [] w w' := by
  go_enter Try.func51, Try.ntmps51
  go_wp2_with (go_at_call 70; refine (is_no _ _ _ h).mono ?_; rintro e w' ⟨rfl, hch⟩)
  go_ret2
  exact ⟨rfl, ((Chg.refl _ _).alloc _).trans hch (by simp)⟩
set_option maxHeartbeats 1600000 in
theorem pack_yes (w : World) (m c : Int) (h : isS m c = true) :
    Calls Try.prog 51 #[.agg #[.int .i64 m, .int .i64 c]] w fun e w' => e = .returned (.tuple #[.int .u64 (m * 65536 + c), .int .i64 0]) ∧ Chg [] w w' := by
  obtain ⟨h0, h1, h2, h3⟩ := isS_iff.1 h
  have HS := Lib.hid h
  clear h
  obtain ⟨m, rfl⟩ := Int.eq_ofNat_of_zero_le h0
  obtain ⟨c, rfl⟩ := Int.eq_ofNat_of_zero_le h2
  go_enter Try.func51, Try.ntmps51
  go_wp2_with (fail)
  refine (is_yes _ _ _ HS.out).mono ?_
  rintro e w1 ⟨rfl, hch1⟩
  obtain ⟨p0, p1, p2⟩ := ((At.new w 46 #[.int .i64 (m : Int), .int .i64 (c : Int)]).keep hch1 (by simp)).st
  have Ho := Lib.hid (or_pack m c (by omega) (by omega))
  go_wp2_with (fail)
  rw [Ho.out]
  go_ret2
  exact ⟨rfl, ((Chg.refl _ _).alloc _).trans hch1 (by simp)⟩
end Go.Proofs.Ytdfkednggjelcaa
