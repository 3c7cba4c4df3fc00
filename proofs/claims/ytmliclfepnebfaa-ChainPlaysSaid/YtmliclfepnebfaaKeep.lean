
/-
  Rows that stand while nothing old changes.
-/
import Derived.Test.YtmliclfepnebfaaBase
namespace Go.Proofs.Ytmliclfepnebfaa
open Go.RowKit
theorem Rd.drew {w : World} {size n : Nat} {A : Option Addr} {xs : List Value} (h : Rd w size A n xs) : Rd w.drew size A n xs := h.keep0 (Chg.refl _ _).drew
theorem Rd.k0 {w w' : World} {size n : Nat} {A : Option Addr} {xs : List Value} (h : Rd w size A n xs) (k : Chg [] w w') : Rd w' size A n xs := h.keep0 k
theorem own_k0 {w w' : World} {base : Nat} {e : TypeId} {size n : Nat} {v : Value} {xs : List Value} (h : w.ownsRow base e size v n xs) (k : Chg [] w w') : w'.ownsRow base e size v n xs := own_keep h k (by simp)
theorem own_up {w : World} {base base' : Nat} {e : TypeId} {size n : Nat} {v : Value} {xs : List Value} (h : w.ownsRow base e size v n xs) (k : base' ≤ base) : w.ownsRow base' e size v n xs := own_base h (fun j hj => Nat.le_trans k (h.lt j hj).1)
theorem Chg.t0 {S : List Nat} {a b c : World} (h : Chg S a b) (k : Chg [] b c) : Chg S a c := h.trans k (by simp)
theorem own_none (w : World) (base : Nat) (e : TypeId) (size : Nat) : w.ownsRow base e size (.slice none 0 0) 0 [] := ⟨by simp, .inl ⟨rfl, rfl⟩⟩
theorem At.al {w : World} {g : Nat} {t : TypeId} {cs : Array Value} (h : At w g t cs) (o : Obj) : At (w.alloc o) g t cs := h.keep ((Chg.refl [] w).alloc o) (by simp)
theorem At.newG (w : World) (t : TypeId) (cs : Array Value) {g : Nat} (hg : g = w.heap.size) : At (w.alloc (.cells cs t)) g t cs := by subst hg; exact At.new _ _ _
end Go.Proofs.Ytmliclfepnebfaa
