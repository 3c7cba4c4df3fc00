
/-
  Stamps in slices and in cells of their own; stamps handed back.
-/
import Derived.Test.YtmliclfepnebfaaHlcC
import Derived.Test.YtmliclfepnebfaaHlcR
import Derived.Laws.Rows
namespace Go.Proofs.Ytmliclfepnebfaa
open Go.RowKit

/-- A stamp that stands in a slice. -/
theorem Rd.getS {w : World} {A : Option Addr} {n : Nat} {l : List St} (h : Rd w 2 A n (cS l)) {k : Nat} (hk : k < l.length) :
    ∃ ad, A = some ad ∧ ad.block < w.heap.size ∧ w.cell? (ad.add (k * 2)) = some (.int .i64 l[k].m) ∧ w.cell? ⟨(ad.add (k * 2)).block, (ad.add (k * 2)).off + 1, none⟩ = some (.int .i64 l[k].c) := by
  have hn : n = l.length := by have := h.len; rw [cS_len] at this; omega
  obtain ⟨ad, e, hb, hc⟩ := h.at_ (by omega)
  obtain ⟨h1, h2⟩ := cS_get hk
  exact ⟨ad, e, hb, hc _ _ h1, by have h3 := hc _ _ h2; rw [← add_add] at h3; exact h3⟩

theorem At.set2 {w : World} {g : Nat} {t : TypeId} {a b : Value} (h : At w g t #[a, b]) (u v : Value) : At ((w.setCell ⟨g, 0, none⟩ u).setCell ⟨g, 1, none⟩ v) g t #[u, v] := by
  simpa using (h.set_ 0 u).set_ 1 v
theorem At.set3 {w : World} {g : Nat} {t : TypeId} {a b c : Value} (h : At w g t #[a, b, c]) (u v : Value) : At ((w.setCell ⟨g, 0, none⟩ u).setCell ⟨g, 1, none⟩ v) g t #[u, v, c] := by
  simpa using (h.set_ 0 u).set_ 1 v
theorem Chg.set2 {S : List Nat} {w0 w : World} (h : Chg S w0 w) {g : Nat} (hg : g ∈ S ∨ w0.heap.size ≤ g) (u v : Value) : Chg S w0 ((w.setCell ⟨g, 0, none⟩ u).setCell ⟨g, 1, none⟩ v) :=
  (h.setCell (p := ⟨g, 0, none⟩) hg u).setCell (p := ⟨g, 1, none⟩) hg v
theorem At.st {w : World} {g : Nat} {T : TypeId} {a b : Value} (h : At w g T #[a, b]) : w.cell? ⟨g, 0, none⟩ = some a ∧ w.cell? ⟨g, 1, none⟩ = some b ∧ g < w.heap.size := ⟨h.cell 0, h.cell 1, h.lt⟩
theorem info_st : (Try.prog.info? 25).map (fun i => (i.zero, i.size, i.bytes)) = some (some (.agg #[.int .i64 0, .int .i64 0]), 2, 16) := by kernel_rfl
theorem st_size : (Try.prog.info? 25).map (·.size) = some 2 := by kernel_rfl
/-- A stamp is handed back. -/
theorem ret_st {fn : Func} {p : Tmp} {tmps : Array Value} {w : World} {g : Nat} {T : TypeId} {m c : Int} {Post : Ending → World → Prop} (h : fn.results = #[.cell p 25])
    (hp : tmps.getD p undef = .pointer (some ⟨g, 0, none⟩)) (hg : At w g T #[.int .i64 m, .int .i64 c]) (hpost : Post (.returned (.agg #[.int .i64 m, .int .i64 c])) w) :
    bodyPost Try.prog fn Post Exit.ret ⟨tmps, []⟩ w :=
  bodyPost_ret (v := .agg #[.int .i64 m, .int .i64 c]) (results_cell_row h tmps w g T _ (0, 0) _ hp hg Try.underlying25 rfl st_size) rfl hpost

/-- A stamp and something else are handed back. -/
theorem ret_st2 {fn : Func} {p q : Tmp} {tmps : Array Value} {w : World} {g : Nat} {T : TypeId} {m c : Int} {v : Value} {Post : Ending → World → Prop} (h : fn.results = #[.cell p 25, .tmp q])
    (hp : tmps.getD p undef = .pointer (some ⟨g, 0, none⟩)) (hq : tmps.getD q undef = v) (hg : At w g T #[.int .i64 m, .int .i64 c]) (hpost : Post (.returned (.tuple #[.agg #[.int .i64 m, .int .i64 c], v])) w) :
    bodyPost Try.prog fn Post Exit.ret ⟨tmps, []⟩ w := by
  refine bodyPost_ret (v := .tuple #[.agg #[.int .i64 m, .int .i64 c], v]) ?_ rfl hpost
  have hp' : tmps[p]?.getD undef = .pointer (some ⟨g, 0, none⟩) := by simpa using hp
  have hq' : tmps[q]?.getD undef = v := by simpa using hq
  simp [results, h, hp', hq', asAddr, run_loadVar_row w g T 25 _ (0, 0) _ hg Try.underlying25 rfl st_size]

end Go.Proofs.Ytmliclfepnebfaa
