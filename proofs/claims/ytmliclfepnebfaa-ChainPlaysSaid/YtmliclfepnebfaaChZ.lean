
/-
  chain: an answer beside a chain; what a law's row of versions is like.
-/
import Derived.Test.YtmliclfepnebfaaChPl
import Derived.Test.YtmliclfepnebfaaOpenV
namespace Go.Proofs.Ytmliclfepnebfaa
open Go.RowKit
set_option linter.unusedVariables false
section
variable {T : TypeId} {w0 w w' : World} {gn : Nat} {l : List VV} {rs : List Res}
/-- What was made behind w stands among the other things. -/
theorem All.one (H : All w0 w rs) {q : Res} (h : All w w' [q]) (hS : Stable w0 q) : All w0 w' (q :: rs) := by
  refine H.new h.chg q (fun b hb => ⟨(h.rng 0 rfl b hb).1, (h.rng 0 rfl b hb).2⟩) ?_ (h.get 0 rfl) hS
  have := h.nodup
  simpa using this
theorem ChA.one (h : ChA T w0 w gn l rs) {q : Res} (k : All w w' [q]) (hS : Stable w0 q) : ChA T w0 w' gn l (q :: rs) :=
  h.beside fun r H => H.one k hS
theorem ChA.vers (h : ChA T w0 w gn l rs) {A : Option Addr} {c : Nat} {ms : List VrV} (k : All w w' [rVs A c ms]) : ChA T w0 w' gn l (rVs A c ms :: rs) := h.one k (rVs_stable _ _ _ _)
end
theorem VsP.rd {A : Option Addr} {c : Nat} {ms : List VrV} {w : World} (h : VsP A c ms w) : Rd w 6 A ms.length (cVr ms) := Rd.of_own h.row
theorem VsP.rdat {A : Option Addr} {c : Nat} {ms : List VrV} {w : World} (h : VsP A c ms w) : ∀ m ∈ ms, Rd w 1 m.A m.val.length (cB m.val) := fun m hm => Rd.of_own (h.dat m hm)
/-- A law's row of versions. -/
structure Vers (w : World) (x : Sl VrV) : Prop where
  rd : Rd w 6 x.A x.ls.length (cVr x.ls)
  dat : ∀ m ∈ x.ls, VrV.InN w m
  len : x.ls.length ≤ 140737488351232
theorem Vers.of {w : World} {x : Sl VrV} (hx : Rd w 6 x.A x.ls.length (x.ls.flatMap VrV.cells) ∧ x.ls.length ≤ x.c ∧ x.c ≤ maxLen ∧ x.ls.length * 64 ≤ 140737488351232 ∧ ∀ a ∈ x.ls, VrV.InN w a) : Vers w x :=
  ⟨hx.1, hx.2.2.2.2, by have := hx.2.2.2.1; omega⟩
theorem Vers.laid {w : World} {x : Sl VrV} (h : Vers w x) (hv : 30 * x.ls.length + (x.ls.map fun x => x.val.length).sum ≤ 8000) : Laid w x.A x.ls :=
  ⟨h.rd, fun m hm => (h.dat m hm).rd, fun m hm => by have := sumV_mem (f := fun x : VrV => x.val.length) hm; omega, fun m hm => (h.dat m hm).nil_⟩
end Go.Proofs.Ytmliclfepnebfaa
