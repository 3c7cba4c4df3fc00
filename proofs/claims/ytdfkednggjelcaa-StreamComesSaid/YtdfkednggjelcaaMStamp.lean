
/-
  Several texts in one: Stamp, HlcC, HlcR.
-/
import Derived.Test.YtdfkednggjelcaaMBase
import Derived.Test.YtdfkednggjelcaaRows
import Derived.Deep.RegionHeld3
import Derived.Deep.DrawnRows
namespace Go.Proofs.Ytdfkednggjelcaa

/-- A stamp: milliseconds, and a counter. -/
structure St where
  m : Int
  c : Int

def St.z : St := ⟨0, 0⟩
def St.val (s : St) : Value := .agg #[.int .i64 s.m, .int .i64 s.c]
/-- The cells of stamps. -/
def cS : List St → List Value
  | [] => []
  | s :: l => .int .i64 s.m :: .int .i64 s.c :: cS l
theorem cS_len (l : List St) : (cS l).length = l.length * 2 := by
  induction l with
  | nil => rfl
  | cons s l ih => simp [cS, ih]; omega
theorem cS_app (a b : List St) : cS (a ++ b) = cS a ++ cS b := by
  induction a with
  | nil => rfl
  | cons s l ih => simp [cS, ih]
theorem cS_one (l : List St) : ∀ u ∈ cS l, u.oneCell' = true := by
  induction l with
  | nil => simp [cS]
  | cons s l ih =>
    intro u hu
    simp only [cS, List.mem_cons] at hu
    rcases hu with rfl | rfl | hu
    · rfl
    · rfl
    · exact ih u hu
theorem cS_get {l : List St} {k : Nat} (h : k < l.length) : (cS l)[k * 2]? = some (.int .i64 l[k].m) ∧ (cS l)[k * 2 + 1]? = some (.int .i64 l[k].c) := by
  induction l generalizing k with
  | nil => simp at h
  | cons s l ih =>
    cases k with
    | zero => simp [cS]
    | succ k =>
      have h2 : k < l.length := by simpa using h
      have e : (k + 1) * 2 = k * 2 + 1 + 1 := by omega
      rw [e]
      simpa [cS] using ih h2

/-- Fits both numbers into 64 bits. -/
def St.wf (s : St) : Prop := -9223372036854775808 ≤ s.m ∧ s.m ≤ 9223372036854775807 ∧ -9223372036854775808 ≤ s.c ∧ s.c ≤ 9223372036854775807

/-- Is it a stamp? -/
def isS (m c : Int) : Bool := decide (0 ≤ m ∧ m ≤ 281474976710655 ∧ 0 ≤ c ∧ c ≤ 65535)
theorem isS_iff {m c : Int} : isS m c = true ↔ 0 ≤ m ∧ m ≤ 281474976710655 ∧ 0 ≤ c ∧ c ≤ 65535 := by simp [isS]
theorem isS_high {m c : Int} (h : isS m c = false) (h0 : 0 ≤ m) (h1 : m ≤ 281474976710655) (h2 : 0 ≤ c) : 65535 < c := by
  have h4 := mt (isS_iff (m := m) (c := c)).2 (by rw [h]; simp)
  omega
/-- Where one stands to another one. -/
def cmpS (a b : St) : Int := if a.m < b.m ∨ (a.m = b.m ∧ a.c < b.c) then -1 else if a.m = b.m ∧ a.c = b.c then 0 else 1
theorem cmpS_lt {a b : St} : cmpS a b < 0 ↔ a.m < b.m ∨ (a.m = b.m ∧ a.c < b.c) := by unfold cmpS; split <;> (try split) <;> omega
theorem cmpS_gt {a b : St} : 0 < cmpS a b ↔ b.m < a.m ∨ (b.m = a.m ∧ b.c < a.c) := by unfold cmpS; split <;> (try split) <;> omega
theorem cmpS_eq {a b : St} : cmpS a b = 0 ↔ a.m = b.m ∧ a.c = b.c := by unfold cmpS; split <;> (try split) <;> omega
theorem cmpS_rng (a b : St) : -1 ≤ cmpS a b ∧ cmpS a b ≤ 1 := by unfold cmpS; split <;> (try split) <;> omega
theorem cmpS_neg (a b : St) : cmpS b a = - cmpS a b := by unfold cmpS; split <;> split <;> (try split) <;> (try split) <;> omega
theorem St.ext' {a b : St} (h1 : a.m = b.m) (h2 : a.c = b.c) : a = b := by cases a; cases b; simp at h1 h2; rw [h1, h2]

/-- The greatest. -/
def maxS2 (m s : St) : St := if 0 < cmpS s m then s else m
def maxS : List St → St
  | [] => .z
  | s :: l => l.foldl maxS2 s
theorem maxS_one (s : St) : maxS [s] = s := rfl
theorem maxS_snoc {l : List St} (h : 0 < l.length) (s : St) : maxS (l ++ [s]) = maxS2 (maxS l) s := by
  cases l with
  | nil => simp at h
  | cons a l => simp [maxS]
/-- The least. -/
def minS2 (m s : St) : St := if cmpS s m < 0 then s else m
def minS : List St → St
  | [] => .z
  | s :: l => l.foldl minS2 s
theorem minS_one (s : St) : minS [s] = s := rfl
theorem minS_snoc {l : List St} (h : 0 < l.length) (s : St) : minS (l ++ [s]) = minS2 (minS l) s := by
  cases l with
  | nil => simp at h
  | cons a l => simp [minS]
theorem snoc_ind {α : Type} {p : List α → Prop} (h0 : p []) (h1 : ∀ l a, p l → p (l ++ [a])) : ∀ l, p l := by
  intro l
  have : ∀ n (l : List α), l.length = n → p l := by
    intro n
    induction n with
    | zero => intro l hl; rw [List.eq_nil_of_length_eq_zero hl]; exact h0
    | succ n ih =>
      intro l hl
      have hne : l ≠ [] := by intro h; rw [h] at hl; simp at hl
      rw [← List.dropLast_concat_getLast hne]
      exact h1 _ _ (ih _ (by simp [hl]))
  exact this _ l rfl
theorem maxS_spec (l : List St) : (0 < l.length → ∃ s, s ∈ l ∧ maxS l = s) ∧ ∀ s ∈ l, cmpS s (maxS l) ≤ 0 := by
  refine snoc_ind (p := fun l => (0 < l.length → ∃ s, s ∈ l ∧ maxS l = s) ∧ ∀ s ∈ l, cmpS s (maxS l) ≤ 0) (by simp) ?_ l
  intro l a ih
  cases l with
  | nil => simp [maxS_one, cmpS]
  | cons b l =>
    obtain ⟨h1, h2⟩ := ih
    rw [maxS_snoc (by simp)]
    obtain ⟨s, hs, e⟩ := h1 (by simp)
    rw [e] at h2 ⊢
    unfold maxS2
    by_cases hc : 0 < cmpS a s
    · rw [if_pos hc]
      refine ⟨fun _ => ⟨a, by simp, rfl⟩, fun x hx => ?_⟩
      rcases List.mem_append.1 hx with hx | hx
      · have := h2 x hx
        have h3 := cmpS_gt.1 hc
        have h4 : ¬ 0 < cmpS x s := by omega
        rw [cmpS_gt] at h4
        have h5 : ¬ 0 < cmpS x a := by rw [cmpS_gt]; omega
        omega
      · obtain rfl := List.mem_singleton.1 hx
        simp [cmpS]
    · rw [if_neg hc]
      refine ⟨fun _ => ⟨s, List.mem_append_left _ hs, rfl⟩, fun x hx => ?_⟩
      rcases List.mem_append.1 hx with hx | hx
      · exact h2 x hx
      · obtain rfl := List.mem_singleton.1 hx
        omega
theorem minS_spec (l : List St) : (0 < l.length → ∃ s, s ∈ l ∧ minS l = s) ∧ ∀ s ∈ l, 0 ≤ cmpS s (minS l) := by
  refine snoc_ind (p := fun l => (0 < l.length → ∃ s, s ∈ l ∧ minS l = s) ∧ ∀ s ∈ l, 0 ≤ cmpS s (minS l)) (by simp) ?_ l
  intro l a ih
  cases l with
  | nil => simp [minS_one, cmpS]
  | cons b l =>
    obtain ⟨h1, h2⟩ := ih
    rw [minS_snoc (by simp)]
    obtain ⟨s, hs, e⟩ := h1 (by simp)
    rw [e] at h2 ⊢
    unfold minS2
    by_cases hc : cmpS a s < 0
    · rw [if_pos hc]
      refine ⟨fun _ => ⟨a, by simp, rfl⟩, fun x hx => ?_⟩
      rcases List.mem_append.1 hx with hx | hx
      · have := h2 x hx
        have h3 := cmpS_lt.1 hc
        have h4 : ¬ cmpS x s < 0 := by omega
        rw [cmpS_lt] at h4
        have h5 : ¬ cmpS x a < 0 := by rw [cmpS_lt]; omega
        omega
      · obtain rfl := List.mem_singleton.1 hx
        simp [cmpS]
    · rw [if_neg hc]
      refine ⟨fun _ => ⟨s, List.mem_append_left _ hs, rfl⟩, fun x hx => ?_⟩
      rcases List.mem_append.1 hx with hx | hx
      · exact h2 x hx
      · obtain rfl := List.mem_singleton.1 hx
        omega
theorem maxS_uniq {l l' : List St} (h : ∀ s, s ∈ l ↔ s ∈ l') : maxS l = maxS l' := by
  have h1 := maxS_spec l
  have h2 := maxS_spec l'
  rcases Nat.eq_zero_or_pos l.length with h0 | h0
  · have e1 := List.eq_nil_of_length_eq_zero h0
    subst e1
    have e2 : l' = [] := by
      cases l' with
      | nil => rfl
      | cons a r => exact absurd ((h a).2 (by simp)) (by simp)
    rw [e2]
  · obtain ⟨s, hs, e1⟩ := h1.1 h0
    have h0' : 0 < l'.length := List.length_pos_of_mem ((h s).1 hs)
    obtain ⟨s', hs', e2⟩ := h2.1 h0'
    rw [e1, e2]
    have h3 := h1.2 s' ((h s').2 hs')
    have h4 := h2.2 s ((h s).1 hs)
    rw [e1] at h3
    rw [e2] at h4
    have h5 := cmpS_neg s s'
    have h6 : cmpS s s' = 0 := by omega
    obtain ⟨h7, h8⟩ := cmpS_eq.1 h6
    exact St.ext' h7 h8
theorem maxS_rot (l : St) (xs : List St) : maxS (l :: xs) = maxS (xs ++ [l]) := maxS_uniq (fun s => by simp [or_comm])
/-- A row that was laid whole is owned. -/
theorem own_full {w : World} {base : Nat} {e : TypeId} {size n g : Nat} {l : List Value} {cs : Array Value} (hb : base ≤ w.heap.size) (hg : g = w.heap.size) (hcs : cs = l.toArray) (hl : l.length = n * size) (hm : n ≤ maxLen) : (w.alloc (.cells cs e)).ownsRow base e size (.slice (some ⟨g, 0, none⟩) n n) n l := by
  subst hg hcs
  exact ⟨hl, .inr ⟨w.heap.size, n, l.toArray, rfl, hb, heap_alloc_new w _, Nat.le_refl _, hm, by simpa using hl, by simp [← hl]⟩⟩
end Go.Proofs.Ytdfkednggjelcaa
namespace Go.Proofs.Ytdfkednggjelcaa
open Go.RowKit
attribute [local go_sem ↓] Go.wp_at_zero Go.wp_at_succ

def cmpI (x y : Int) : Int := if x < y then -1 else if y < x then 1 else 0
def orI (x y : Int) : Int := if x = 0 then y else x
theorem orI_cmp (a b : St) : orI (cmpI a.m b.m) (cmpI a.c b.c) = cmpS a b := by
  unfold orI cmpI cmpS
  split <;> split <;> (try split) <;> (try split) <;> (try split) <;> omega

theorem cell_new (w : World) (cs : Array Value) (t : TypeId) {g i : Nat} (hg : g = w.heap.size) : (w.alloc (.cells cs t)).cell? ⟨g, i, none⟩ = cs[i]? := by
  subst hg; exact (At.new w t cs).cell i
theorem isMilli_yes (x : Int) (w : World) (h0 : 0 ≤ x) (h1 : x ≤ 281474976710655) : Calls Try.prog 84 #[.int .i64 x] w fun e w' => e = .returned (.bool true) ∧ w = w' := by
  go_enter Try.func84, Try.ntmps84
  go_wp2_with (fail)
  go_ret
  exact ⟨rfl, rfl⟩
theorem isMilli_no (x : Int) (w : World) (h : x < 0 ∨ 281474976710655 < x) : Calls Try.prog 84 #[.int .i64 x] w fun e w' => e = .returned (.bool false) ∧ w = w' := by
  rcases h with h | h
  · go_enter Try.func84, Try.ntmps84
    go_wp2_with (fail)
    go_ret
    exact ⟨rfl, rfl⟩
  · have h0 : 0 ≤ x := by omega
    go_enter Try.func84, Try.ntmps84
    go_wp2_with (fail)
    go_ret
    exact ⟨by simp; omega, rfl⟩
set_option maxHeartbeats 800000 in
theorem is_yes (m c : Int) (w : World) (h : isS m c = true) : Calls Try.prog 70 #[.agg #[.int .i64 m, .int .i64 c]] w fun e w' => e = .returned (.bool true) ∧ Chg [] w w' := by
  obtain ⟨h0, h1, h2, h3⟩ := isS_iff.1 h
  clear h
  go_enter Try.func70, Try.ntmps70
  go_wp2_with (go_at_call 84; refine (isMilli_yes _ _ h0 h1).mono ?_; rintro e w' ⟨rfl, rfl⟩)
  go_ret
  exact ⟨rfl, (Chg.refl _ _).alloc _⟩
set_option maxHeartbeats 800000 in
theorem is_no (m c : Int) (w : World) (h : isS m c = false) : Calls Try.prog 70 #[.agg #[.int .i64 m, .int .i64 c]] w fun e w' => e = .returned (.bool false) ∧ Chg [] w w' := by
  by_cases hm : m < 0 ∨ 281474976710655 < m
  · clear h
    go_enter Try.func70, Try.ntmps70
    go_wp2_with (go_at_call 84; refine (isMilli_no _ _ hm).mono ?_; rintro e w' ⟨rfl, rfl⟩)
    go_ret
    exact ⟨rfl, (Chg.refl _ _).alloc _⟩
  · have h0 : 0 ≤ m := by omega
    have h1 : m ≤ 281474976710655 := by omega
    clear hm
    by_cases hc : c < 0
    · clear h
      go_enter Try.func70, Try.ntmps70
      go_wp2_with (go_at_call 84; refine (isMilli_yes _ _ h0 h1).mono ?_; rintro e w' ⟨rfl, rfl⟩)
      go_ret
      exact ⟨rfl, (Chg.refl _ _).alloc _⟩
    · have h2 : 0 ≤ c := by omega
      have h3 := isS_high h h0 h1 h2
      clear h hc
      go_enter Try.func70, Try.ntmps70
      go_wp2_with (go_at_call 84; refine (isMilli_yes _ _ h0 h1).mono ?_; rintro e w' ⟨rfl, rfl⟩)
      go_ret
      exact ⟨by simp; omega, (Chg.refl _ _).alloc _⟩
end Go.Proofs.Ytdfkednggjelcaa
namespace Go.Proofs.Ytdfkednggjelcaa
open Go.RowKit

set_option maxHeartbeats 800000 in
theorem refIs_yes (m c : Int) (w : World) (h : isS m c = true) : Calls Try.prog 62 #[.agg #[.int .i64 m, .int .i64 c]] w fun e w' => e = .returned (.bool true) ∧ Chg [] w w' := by
  obtain ⟨h0, h1, h2, h3⟩ := isS_iff.1 h
  clear h
  go_enter Try.func62, Try.ntmps62
  go_wp2_with (fail)
  go_ret
  exact ⟨rfl, (Chg.refl _ _).alloc _⟩
set_option maxHeartbeats 1600000 in
theorem refIs_no (m c : Int) (w : World) (h : isS m c = false) : Calls Try.prog 62 #[.agg #[.int .i64 m, .int .i64 c]] w fun e w' => e = .returned (.bool false) ∧ Chg [] w w' := by
  by_cases h0 : m < 0
  · clear h
    go_enter Try.func62, Try.ntmps62
    go_wp2_with (fail)
    go_ret
    exact ⟨rfl, (Chg.refl _ _).alloc _⟩
  · have h0' : 0 ≤ m := by omega
    clear h0
    by_cases h1 : 281474976710655 < m
    · clear h
      go_enter Try.func62, Try.ntmps62
      go_wp2_with (fail)
      go_ret
      exact ⟨rfl, (Chg.refl _ _).alloc _⟩
    · have h1' : m ≤ 281474976710655 := by omega
      clear h1
      by_cases hc : c < 0
      · clear h
        go_enter Try.func62, Try.ntmps62
        go_wp2_with (fail)
        go_ret
        exact ⟨rfl, (Chg.refl _ _).alloc _⟩
      · have h2 : 0 ≤ c := by omega
        have h3 := isS_high h h0' h1' h2
        clear h hc
        go_enter Try.func62, Try.ntmps62
        go_wp2_with (fail)
        go_ret
        exact ⟨by simp; omega, (Chg.refl _ _).alloc _⟩
end Go.Proofs.Ytdfkednggjelcaa
