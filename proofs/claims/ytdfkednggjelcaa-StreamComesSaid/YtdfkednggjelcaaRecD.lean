
/-
  rec.Decode.
-/
import Derived.Test.YtdfkednggjelcaaRecS
import Derived.Test.YtdfkednggjelcaaMOct
import Derived.Test.YtdfkednggjelcaaMBase
namespace Go.Proofs.Ytdfkednggjelcaa
open Go.RowKit
set_option linter.unusedVariables false

def DecRPost (w : World) (o : Option Rc) (e : Ending) (w' : World) : Prop := ∃ x : RcV, e = .returned (.tuple #[.agg x.cells.toArray, .int .i64 (if o.isSome then 0 else 3)]) ∧ x.r = o.getD Rc.z ∧
  w'.ownsRow w.heap.size 5 1 (.slice x.A x.r.val.length x.cp) x.r.val.length (cB x.r.val) ∧ Chg [] w w'
theorem rec_size : (Try.prog.info? 51).map (·.size) = some 9 := by kernel_rfl
/-- A record and something else are handed back. -/
theorem ret_rec2 {fn : Func} {p q : Tmp} {tmps : Array Value} {w : World} {g : Nat} {T : TypeId} {cs : Array Value} {v : Value} {Post : Ending → World → Prop} (hs : cs.size = 9) (h : fn.results = #[.cell p 51, .tmp q])
    (hp : tmps.getD p undef = .pointer (some ⟨g, 0, none⟩)) (hq : tmps.getD q undef = v) (hg : At w g T cs) (hpost : Post (.returned (.tuple #[.agg cs, v])) w) :
    bodyPost Try.prog fn Post Exit.ret ⟨tmps, []⟩ w := by
  refine bodyPost_ret (v := .tuple #[.agg cs, v]) ?_ rfl hpost
  have hp' : tmps[p]?.getD undef = .pointer (some ⟨g, 0, none⟩) := by simpa using hp
  have hq' : tmps[q]?.getD undef = v := by simpa using hq
  simp [results, h, hp', hq', asAddr, run_loadVar_row w g T 51 _ (0, 0) _ hg Try.underlying51 rfl (rec_size.trans (by rw [hs]))]

theorem At.set9 {w : World} {g : Nat} {t : TypeId} {v0 v1 v2 v3 v4 v5 v6 v7 v8 : Value} (h : At w g t #[v0, v1, v2, v3, v4, v5, v6, v7, v8]) (u0 u1 u2 u3 u4 u5 u6 u7 u8 : Value) : At (((((((((w.setCell ⟨g, 0, none⟩ u0).setCell ⟨g, 1, none⟩ u1).setCell ⟨g, 2, none⟩ u2).setCell ⟨g, 3, none⟩ u3).setCell ⟨g, 4, none⟩ u4).setCell ⟨g, 5, none⟩ u5).setCell ⟨g, 6, none⟩ u6).setCell ⟨g, 7, none⟩ u7).setCell ⟨g, 8, none⟩ u8) g t #[u0, u1, u2, u3, u4, u5, u6, u7, u8] := by
  simpa using ((((((((h.set_ 0 u0).set_ 1 u1).set_ 2 u2).set_ 3 u3).set_ 4 u4).set_ 5 u5).set_ 6 u6).set_ 7 u7).set_ 8 u8
theorem Chg.set9 {S : List Nat} {a w : World} (h : Chg S a w) {g : Nat} (hg : g ∈ S ∨ a.heap.size ≤ g) (u0 u1 u2 u3 u4 u5 u6 u7 u8 : Value) : Chg S a (((((((((w.setCell ⟨g, 0, none⟩ u0).setCell ⟨g, 1, none⟩ u1).setCell ⟨g, 2, none⟩ u2).setCell ⟨g, 3, none⟩ u3).setCell ⟨g, 4, none⟩ u4).setCell ⟨g, 5, none⟩ u5).setCell ⟨g, 6, none⟩ u6).setCell ⟨g, 7, none⟩ u7).setCell ⟨g, 8, none⟩ u8) :=
  ((((((((h.setCell (p := ⟨g, 0, none⟩) hg u0).setCell (p := ⟨g, 1, none⟩) hg u1).setCell (p := ⟨g, 2, none⟩) hg u2).setCell (p := ⟨g, 3, none⟩) hg u3).setCell (p := ⟨g, 4, none⟩) hg u4).setCell (p := ⟨g, 5, none⟩) hg u5).setCell (p := ⟨g, 6, none⟩) hg u6).setCell (p := ⟨g, 7, none⟩) hg u7).setCell (p := ⟨g, 8, none⟩) hg u8
theorem RrG.base {Ty : TypeId} {w0 w1 : World} {B : Nat} {S : List Nat} {w : World} {A : Option Addr} {c : Nat} {L : List UInt8} {b : Bool} (h : RrG Ty w1 B S w A c L b) (k : Chg [B] w0 w) : RrG Ty w0 B S w A c L b := ⟨h.at_, h.rd, h.cap, k, h.blk, h.ne, h.err⟩

theorem RrG.stay {Ty : TypeId} {w0 : World} {B : Nat} {S : List Nat} {w w' : World} {A : Option Addr} {c : Nat} {L : List UInt8} {b : Bool} (h : RrG Ty w0 B S w A c L b) {U : List Nat} (hc : Chg U w w') (hU : ∀ k ∈ U, k ≠ B ∧ k ∉ S) : RrG Ty w' B S w' A c L b :=
  ⟨h.at_.keep hc (fun hm => (hU B hm).1 rfl), h.rd.keep hc (fun h0 k hk hm => (hU k hm).2 (h.blk h0 k hk)), h.cap, Chg.refl _ _, h.blk, h.ne, h.err⟩

end Go.Proofs.Ytdfkednggjelcaa
