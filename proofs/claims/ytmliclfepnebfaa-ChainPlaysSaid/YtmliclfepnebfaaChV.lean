
/-
  chain: versions by value; their order.
-/
import Derived.Test.YtmliclfepnebfaaOpenR
import Derived.Test.YtmliclfepnebfaaRecW2
namespace Go.Proofs.Ytmliclfepnebfaa
open Go.RowKit
set_option linter.unusedVariables false

/-- A version by value. -/
structure VV where
  m : Int
  c : Int
  o : Int
  d : List UInt8
  g : Bool
  t : Int
def VrV.v (x : VrV) : VV := ⟨x.m, x.c, x.vo, x.val, x.gone, x.ttl⟩
def VV.st (v : VV) : St := ⟨v.m, v.c⟩
theorem VV.ext' {a b : VV} (h1 : a.m = b.m) (h2 : a.c = b.c) (h3 : a.o = b.o) (h4 : a.d = b.d) (h5 : a.g = b.g) (h6 : a.t = b.t) : a = b := by cases a; cases b; simp_all
def cVr (l : List VrV) : List Value := l.flatMap VrV.cells
theorem cVr_cons (a : VrV) (l : List VrV) : cVr (a :: l) = a.cells ++ cVr l := rfl
theorem cVr_app (a b : List VrV) : cVr (a ++ b) = cVr a ++ cVr b := by simp [cVr, List.flatMap_append]
theorem cVr_len (l : List VrV) : (cVr l).length = l.length * 6 := by
  induction l with
  | nil => rfl
  | cons a l ih => rw [cVr_cons, List.length_append, ih, List.length_cons, Nat.succ_mul, Nat.add_comm]; rfl
theorem cVr_one (l : List VrV) : ∀ u ∈ cVr l, u.oneCell' = true := by
  intro u hu
  obtain ⟨r, _, hr⟩ := List.mem_flatMap.1 hu
  simp only [VrV.cells, List.mem_cons, List.not_mem_nil, or_false] at hr
  rcases hr with rfl | rfl | rfl | rfl | rfl | rfl <;> rfl
theorem cVr_get : ∀ {l : List VrV} {k : Nat} (hk : k < l.length) {j : Nat} (hj : j < 6), (cVr l)[k * 6 + j]? = (l[k].cells)[j]?
  | a :: l, 0, _, j, hj => by
    rw [cVr_cons, Nat.zero_mul, Nat.zero_add, List.getElem?_append_left (by exact hj)]; rfl
  | a :: l, k + 1, hk, j, hj => by
    rw [cVr_cons, List.getElem?_append_right (by show 6 ≤ _; omega)]
    have e : (k + 1) * 6 + j - a.cells.length = k * 6 + j := by show (k + 1) * 6 + j - 6 = _; omega
    rw [e, cVr_get (by simpa using hk) hj]; rfl
theorem cVr_take : ∀ (l : List VrV) (k : Nat), (cVr l).take (k * 6) = cVr (l.take k)
  | [], k => by simp [cVr]
  | a :: l, 0 => by simp [cVr]
  | a :: l, k + 1 => by
    rw [cVr_cons, List.take_succ_cons, cVr_cons, ← cVr_take l k, List.take_append]
    have e : (k + 1) * 6 - a.cells.length = k * 6 := by show (k + 1) * 6 - 6 = _; omega
    rw [e, List.take_of_length_le (by show 6 ≤ _; omega)]
theorem cVr_drop : ∀ (l : List VrV) (k : Nat), (cVr l).drop (k * 6) = cVr (l.drop k)
  | [], k => by simp [cVr]
  | a :: l, 0 => by simp
  | a :: l, k + 1 => by
    rw [cVr_cons, List.drop_succ_cons, ← cVr_drop l k, List.drop_append]
    have e : (k + 1) * 6 - a.cells.length = k * 6 := by show (k + 1) * 6 - 6 = _; omega
    rw [e, List.drop_of_length_le (by show 6 ≤ _; omega), List.nil_append]
theorem cVr_erase (l : List VrV) (k : Nat) : (cVr l).take (k * 6) ++ (cVr l).drop ((k + 1) * 6) = cVr (l.eraseIdx k) := by
  rw [cVr_take, cVr_drop, ← cVr_app, List.eraseIdx_eq_take_drop_succ]
/-- Is it a version? -/
def isVV (v : VV) : Bool := isV v.m v.c v.o v.d v.g v.t
structure IsVV (v : VV) : Prop where
  s : isS v.m v.c = true
  o0 : 0 ≤ v.o
  o5 : v.o < 5
  d : v.d.length ≤ 1024
  t0 : 0 ≤ v.t
  t1 : v.t ≤ 281474976710655
  g : v.g = true → v.d.length = 0 ∧ v.t = 0
theorem isVV_iff {v : VV} : isVV v = true ↔ IsVV v := by
  unfold isVV isV
  constructor
  · intro h
    simp only [Bool.and_eq_true, decide_eq_true_eq, Bool.or_eq_true, Bool.not_eq_true'] at h
    obtain ⟨⟨⟨⟨⟨⟨h1, h2⟩, h3⟩, h4⟩, h5⟩, h6⟩, h7⟩ := h
    refine ⟨h1, h2, h3, h4, h5, h6, fun hg => ?_⟩
    rcases h7 with h7 | h7
    · rw [hg] at h7; cases h7
    · exact h7
  · intro h
    simp only [Bool.and_eq_true, decide_eq_true_eq, Bool.or_eq_true, Bool.not_eq_true']
    refine ⟨⟨⟨⟨⟨⟨h.s, h.o0⟩, h.o5⟩, h.d⟩, h.t0⟩, h.t1⟩, ?_⟩
    cases hg : v.g
    · exact .inl rfl
    · exact .inr (h.g hg)
/-- The order of versions. -/
def cmpV (a b : VV) : Int := orI (cmpS a.st b.st) (cmpI a.o b.o)
theorem cmpI_lt {x y : Int} : cmpI x y < 0 ↔ x < y := by unfold cmpI; split <;> (try split) <;> omega
theorem cmpI_eq {x y : Int} : cmpI x y = 0 ↔ x = y := by unfold cmpI; split <;> (try split) <;> omega
theorem cmpV_lt {a b : VV} : cmpV a b < 0 ↔ a.m < b.m ∨ (a.m = b.m ∧ (a.c < b.c ∨ (a.c = b.c ∧ a.o < b.o))) := by
  unfold cmpV orI
  have h1 : cmpS a.st b.st < 0 ↔ a.m < b.m ∨ (a.m = b.m ∧ a.c < b.c) := cmpS_lt
  have h2 : cmpS a.st b.st = 0 ↔ a.m = b.m ∧ a.c = b.c := cmpS_eq
  have h3 := @cmpI_lt a.o b.o
  split
  · rename_i h
    have := h2.1 h
    rw [h3]; omega
  · rename_i h
    rw [h1]
    have h4 : ¬ (a.m = b.m ∧ a.c = b.c) := fun e => h (h2.2 e)
    omega
theorem cmpV_eq {a b : VV} : cmpV a b = 0 ↔ a.m = b.m ∧ a.c = b.c ∧ a.o = b.o := by
  unfold cmpV orI
  have h2 : cmpS a.st b.st = 0 ↔ a.m = b.m ∧ a.c = b.c := cmpS_eq
  have h3 := @cmpI_eq a.o b.o
  split
  · rename_i h
    have := h2.1 h
    rw [h3]; omega
  · rename_i h
    have h4 : ¬ (a.m = b.m ∧ a.c = b.c) := fun e => h (h2.2 e)
    constructor
    · intro h5; exact absurd h5 h
    · intro h5; exact absurd ⟨h5.1, h5.2.1⟩ h4
/-- Rising versions. -/
def Rise (l : List VV) : Prop := l.Pairwise fun a b => cmpV a b < 0
/-- How many stand below a version. -/
def posV (l : List VV) (v : VV) : Nat := (l.takeWhile fun x => decide (cmpV x v < 0)).length
/-- Is one there with this stamp and place? -/
def hasV (l : List VV) (v : VV) : Bool := l.any fun x => cmpV x v == 0
def insV (l : List VV) (v : VV) : List VV := l.take (posV l v) ++ v :: l.drop (posV l v)
def putE (l : List VV) (v : VV) : Int := if isVV v = false then 1 else if hasV l v then 8 else 0
def putL (l : List VV) (v : VV) : List VV := if putE l v = 0 then insV l v else l
/-- Is it seen at a stamp? -/
def seenV (v : VV) (s : St) : Bool := decide (cmpS v.st s ≤ 0) && (!v.g && (v.t == 0 || decide (s.m - v.m < v.t)))
/-- How many are not above a stamp, from the first on. -/
def uptoV (l : List VV) (s : St) : Nat := (l.takeWhile fun x => decide (cmpS x.st s ≤ 0)).length
theorem posV_le (l : List VV) (v : VV) : posV l v ≤ l.length := (List.takeWhile_prefix _).length_le
theorem uptoV_le (l : List VV) (s : St) : uptoV l s ≤ l.length := (List.takeWhile_prefix _).length_le
theorem takeWhile_spec {α : Type} (p : α → Bool) : ∀ (l : List α), (∀ j (h : j < l.length), j < (l.takeWhile p).length → p l[j] = true) ∧ ∀ h : (l.takeWhile p).length < l.length, p (l[(l.takeWhile p).length]'h) = false
  | [] => ⟨fun j h => by simp at h, fun h => by simp at h⟩
  | a :: l => by
    cases ha : p a
    · rw [List.takeWhile_cons_of_neg (by simp [ha])]
      exact ⟨fun j h h2 => by simp at h2, fun h => ha⟩
    · rw [List.takeWhile_cons_of_pos ha]
      obtain ⟨h1, h2⟩ := takeWhile_spec p l
      refine ⟨fun j h h3 => ?_, fun h => ?_⟩
      · cases j with
        | zero => exact ha
        | succ j => exact h1 j (by simpa using h) (by simpa using h3)
      · exact h2 (by simpa using h)
/-- The length of the front part, by what it is. -/
theorem takeWhile_len {α : Type} (p : α → Bool) {l : List α} {k : Nat} (hk : k ≤ l.length) (h1 : ∀ j (h : j < l.length), j < k → p l[j] = true) (h2 : ∀ h : k < l.length, p l[k] = false) : (l.takeWhile p).length = k := by
  obtain ⟨s1, s2⟩ := takeWhile_spec p l
  have hle : (l.takeWhile p).length ≤ l.length := (List.takeWhile_prefix _).length_le
  rcases Nat.lt_trichotomy (l.takeWhile p).length k with h | h | h
  · have h3 := s2 (by omega)
    rw [h1 _ (by omega) h] at h3
    cases h3
  · exact h
  · have h3 := s1 k (by omega) h
    rw [h2 (by omega)] at h3
    cases h3
end Go.Proofs.Ytmliclfepnebfaa
