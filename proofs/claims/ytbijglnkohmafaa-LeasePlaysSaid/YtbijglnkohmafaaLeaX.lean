
/-
  lease: the reference: what it holds in memory.
-/
import Derived.Test.YtbijglnkohmafaaLeaC
import Derived.Test.YtbijglnkohmafaaSep
namespace Go.Proofs.Ytbijglnkohmafaa
open Go.RowKit Go.Maps
set_option linter.unusedVariables false
attribute [local go_sem ↓] run_min2 run_max2

def LV.cells (x : LV) : List Value := [.int .i64 x.id, .int .i64 x.m, .int .i64 x.c, .int .i64 x.u]
def cLV (l : List LV) : List Value := l.flatMap LV.cells
theorem cLV_cons (a : LV) (l : List LV) : cLV (a :: l) = a.cells ++ cLV l := rfl
theorem cLV_app (a b : List LV) : cLV (a ++ b) = cLV a ++ cLV b := by simp [cLV, List.flatMap_append]
theorem cLV_len (l : List LV) : (cLV l).length = l.length * 4 := by
  induction l with
  | nil => rfl
  | cons a l ih => rw [cLV_cons, List.length_append, ih, List.length_cons, Nat.succ_mul, Nat.add_comm]; rfl
theorem cLV_one (l : List LV) : ∀ u ∈ cLV l, u.oneCell' = true := by
  intro u hu
  obtain ⟨r, _, hr⟩ := List.mem_flatMap.1 hu
  simp only [LV.cells, List.mem_cons, List.not_mem_nil, or_false] at hr
  rcases hr with rfl | rfl | rfl | rfl <;> rfl
theorem cLV_get : ∀ {l : List LV} {k : Nat} (hk : k < l.length) {j : Nat} (hj : j < 4), (cLV l)[k * 4 + j]? = (l[k].cells)[j]?
  | a :: l, 0, _, j, hj => by
    rw [cLV_cons, Nat.zero_mul, Nat.zero_add, List.getElem?_append_left (by exact hj)]; rfl
  | a :: l, k + 1, hk, j, hj => by
    rw [cLV_cons, List.getElem?_append_right (by show 4 ≤ _; omega)]
    have e : (k + 1) * 4 + j - a.cells.length = k * 4 + j := by show (k + 1) * 4 + j - 4 = _; omega
    rw [e, cLV_get (by simpa using hk) hj]; rfl
theorem cLV_take : ∀ (l : List LV) (k : Nat), (cLV l).take (k * 4) = cLV (l.take k)
  | [], k => by simp [cLV]
  | a :: l, 0 => by simp [cLV]
  | a :: l, k + 1 => by
    rw [cLV_cons, List.take_succ_cons, cLV_cons, ← cLV_take l k, List.take_append]
    have e : (k + 1) * 4 - a.cells.length = k * 4 := by show (k + 1) * 4 - 4 = _; omega
    rw [e, List.take_of_length_le (by show 4 ≤ _; omega)]
theorem cLV_drop : ∀ (l : List LV) (k : Nat), (cLV l).drop (k * 4) = cLV (l.drop k)
  | [], k => by simp [cLV]
  | a :: l, 0 => by simp
  | a :: l, k + 1 => by
    rw [cLV_cons, List.drop_succ_cons, ← cLV_drop l k, List.drop_append]
    have e : (k + 1) * 4 - a.cells.length = k * 4 := by show (k + 1) * 4 - 4 = _; omega
    rw [e, List.drop_of_length_le (by show 4 ≤ _; omega), List.nil_append]
theorem cLV_erase (l : List LV) (k : Nat) : (cLV l).take (k * 4) ++ (cLV l).drop ((k + 1) * 4) = cLV (l.eraseIdx k) := by
  rw [cLV_take, cLV_drop, ← cLV_app, List.eraseIdx_eq_take_drop_succ]

theorem info_lea : (Try.prog.info? 70).map (fun i => (i.zero, i.size, i.bytes)) = some (some (.agg #[.int .i64 0, .int .i64 0, .int .i64 0, .int .i64 0]), 4, 32) := by kernel_rfl
/-- The reference's Leases in memory. -/
structure LxH (w0 w : World) (gx : Nat) (A : Option Addr) (c : Nat) (l : List LV) (nx : Nat) : Prop where
  at_ : At w gx 48 #[.slice A l.length c, .int .i64 (nx : Int)]
  row : w.ownsRow w0.heap.size 70 4 (.slice A l.length c) l.length (cLV l)
  new : w0.heap.size ≤ gx
  chg : Chg [] w0 w
section
variable {w0 w w' : World} {gx : Nat} {A : Option Addr} {c : Nat} {l : List LV} {nx : Nat}
theorem LxH.keep (h : LxH w0 w gx A c l nx) {S : List Nat} (hc : Chg S w w') (h1 : gx ∉ S) (h2 : ∀ j ∈ blk A, j ∉ S) (h3 : ∀ x ∈ S, w0.heap.size ≤ x) : LxH w0 w' gx A c l nx :=
  ⟨h.at_.keep hc h1, own_keep h.row hc (fun j hj hm => h2 j (bo _ _ _ _ hj) hm), h.new, h.chg.trans hc (fun x hx => .inr (h3 x hx))⟩
theorem LxH.k0 (h : LxH w0 w gx A c l nx) (hc : Chg [] w w') : LxH w0 w' gx A c l nx := h.keep hc (by simp) (by simp) (by simp)
theorem LxH.pick (h : LxH w0 w gx A c l nx) {i : Nat} (hi : i < l.length) : ∃ g, A = some ⟨g, 0, none⟩ ∧ g < w.heap.size ∧ g ≠ gx ∧ w.cell? ⟨g, i * 4, none⟩ = some (.int .i64 l[i].id) ∧ w.cell? ⟨g, i * 4 + 1, none⟩ = some (.int .i64 l[i].m) ∧ w.cell? ⟨g, i * 4 + 2, none⟩ = some (.int .i64 l[i].c) ∧ w.cell? ⟨g, i * 4 + 3, none⟩ = some (.int .i64 l[i].u) := by
  obtain ⟨g, rfl⟩ : ∃ g, A = some ⟨g, 0, none⟩ := by
    rcases h.row.2 with ⟨_, h4⟩ | ⟨g, cap, cur, h4, _⟩
    · omega
    · injection h4 with h4; exact ⟨g, h4⟩
  have hR : ∀ (j : Nat) (hj : j < 4) u, (l[i].cells)[j]? = some u → w.cell? ⟨g, i * 4 + j, none⟩ = some u := fun j hj u hu => by
    obtain ⟨ad, ha, _, hc⟩ := (Rd.of_own h.row).at_ (by omega)
    obtain rfl : ad = ⟨g, 0, none⟩ := by injection ha with ha; exact ha.symm
    have := hc (i * 4 + j) u (by rw [cLV_get hi hj]; exact hu)
    have e : (⟨g, 0, none⟩ : Addr).add (i * 4 + j) = ⟨g, i * 4 + j, none⟩ := by unfold Addr.add; split <;> simp_all
    rwa [e] at this
  exact ⟨g, rfl, (own_in h.row g (by simp [blk])).2, fun e => own_at_ne h.row h.at_ (by decide) g rfl e, hR 0 (by omega) _ rfl, hR 1 (by omega) _ rfl, hR 2 (by omega) _ rfl, hR 3 (by omega) _ rfl⟩
theorem fnd_at : ∀ {l : List LV} {k : Int} {q : Nat} (hq : q < l.length), (∀ j (hj : j < l.length), j < q → l[j].id ≠ k) → l[q].id = k → fndL l k = some l[q]
  | a :: l, k, 0, _, _, h => by
    unfold fndL
    rw [List.find?_cons_of_pos (by simpa using h)]; rfl
  | a :: l, k, q + 1, hq, h0, h => by
    unfold fndL
    have h1 : a.id ≠ k := h0 0 (by simp) (by omega)
    rw [List.find?_cons_of_neg (by simpa using h1)]
    exact fnd_at (l := l) (q := q) (by simpa using hq) (fun j hj hjq => h0 (j + 1) (by simpa using hj) (by omega)) h
theorem xlen_all (h : LxH w0 w gx A c l nx) : Calls Try.prog 24 #[.pointer (some ⟨gx, 0, none⟩)] w fun e w' => e = .returned (.int .i64 l.length) ∧ w' = w := by
  have c0 : w.cell? ⟨gx, 0, none⟩ = some (.slice A l.length c) := h.at_.cell 0
  go_enter Try.func24, Try.ntmps24
  go_wp2_with (fail)
  go_ret
  exact ⟨rfl, rfl⟩
set_option maxHeartbeats 1600000 in
theorem xfind_all (h : LxH w0 w gx A c l nx) (hl : l.length ≤ 1000000) (k : Int) : Calls Try.prog 30 #[.pointer (some ⟨gx, 0, none⟩), .int .i64 k] w fun e w' => ∃ r : Int, e = .returned (.int .i64 r) ∧ w' = w ∧ ((fndL l k = none ∧ r = -1) ∨ ∃ (i : Nat) (x : LV), fndL l k = some x ∧ l[i]? = some x ∧ r = i) := by
  have HH := Lib.hid h
  have c0 : w.cell? ⟨gx, 0, none⟩ = some (.slice A l.length c) := h.at_.cell 0
  clear h
  go_enter Try.func30, Try.ntmps30
  go_wp2_with (fail)
  go_loopw [5] (fun i wr => ∃ q : Nat, q ≤ l.length ∧ i = .int .i64 q ∧ Hid (∀ j (hj : j < l.length), j < q → l[j].id ≠ k) ∧ wr = w) (fun i _ => l.length - (intOf i).toNat)
  case atStart => exact ⟨0, Nat.zero_le _, rfl, (by intro j hj h0; omega), rfl⟩
  case round =>
    obtain ⟨q, hq, rfl, HQ, rfl⟩ := hrel
    by_cases hlt : q < l.length
    · obtain ⟨g, rfl, hg, hgx, r0, r1, r2, r3⟩ := HH.out.pick hlt
      have hqi : (q : Int) < (l.length : Int) := by omega
      by_cases he : l[q].id = k
      · have HF := Lib.hid (fnd_at hlt HQ.out he)
        have HG : Hid (l[q]? = some l[q]) := List.getElem?_eq_getElem hlt
        rw [he] at r0
        generalize l[q] = x at *
        clear HQ he
        go_wp2_with (fail)
        go_ret
        exact ⟨q, rfl, rfl, .inr ⟨q, x, HF.out, HG.out, rfl⟩⟩
      · have HQ2 : Hid (∀ j (hj : j < l.length), j < q + 1 → l[j].id ≠ k) := fun j hj h0 => by
          by_cases e : j = q
          · subst e; exact he
          · exact HQ.out j hj (by omega)
        have hb : (l[q].id == k) = false := by rw [beq_eq_false_iff_ne]; exact he
        generalize l[q] = x at *
        clear HQ he
        go_wp2_with (fail)
        go_roundw
        case rel => exact ⟨q + 1, by omega, by go_num, HQ2, trivial⟩
        case measure => simp [intOf]; omega
    · obtain rfl : q = l.length := by omega
      have hqi : ¬ (l.length : Int) < (l.length : Int) := by omega
      have HN : Hid (fndL l k = none) := by
        unfold Hid fndL
        rw [List.find?_eq_none]
        intro x hx
        obtain ⟨j, hj, rfl⟩ := List.mem_iff_getElem.1 hx
        have := HQ.out j hj hj
        simpa using this
      clear HQ
      go_wp2_with (fail)
      go_ret
      exact ⟨-1, rfl, rfl, .inl ⟨HN.out, rfl⟩⟩
theorem xfind_no (h : LxH w0 w gx A c l nx) (hl : l.length ≤ 1000000) (k : Int) (hf : fndL l k = none) : Calls Try.prog 30 #[.pointer (some ⟨gx, 0, none⟩), .int .i64 k] w fun e w' => e = .returned (.int .i64 (-1)) ∧ w' = w := by
  refine (xfind_all h hl k).mono ?_
  rintro e w' ⟨r, rfl, rfl, ⟨_, rfl⟩ | ⟨i, x, h1, _⟩⟩
  · exact ⟨rfl, rfl⟩
  · rw [hf] at h1; cases h1
theorem xfind_yes (h : LxH w0 w gx A c l nx) (hl : l.length ≤ 1000000) (k : Int) {x : LV} (hf : fndL l k = some x) : Calls Try.prog 30 #[.pointer (some ⟨gx, 0, none⟩), .int .i64 k] w fun e w' => ∃ i : Nat, e = .returned (.int .i64 i) ∧ w' = w ∧ l[i]? = some x := by
  refine (xfind_all h hl k).mono ?_
  rintro e w' ⟨r, rfl, rfl, ⟨h1, rfl⟩ | ⟨i, y, h1, h2, rfl⟩⟩
  · rw [hf] at h1; cases h1
  · rw [hf] at h1
    injection h1 with h1
    subst h1
    exact ⟨i, rfl, rfl, h2⟩
set_option maxHeartbeats 1600000 in
theorem xat_no (h : LxH w0 w gx A c l nx) (hl : l.length ≤ 1000000) (k now : Int) (hf : fndL l k = none) : Calls Try.prog 20 #[.pointer (some ⟨gx, 0, none⟩), .int .i64 k, .int .i64 now] w fun e w' => e = .returned (.tuple #[.agg #[.int .i64 0, .int .i64 0], .int .i64 7]) ∧ Chg [] w w' := by
  have q0 := (Chg.refl [] w).alloc (.cells #[.int .i64 0, .int .i64 0] 29)
  have HF := Lib.hid (xfind_no (h.k0 q0) hl k hf)
  have z0 := At.new w 29 #[.int .i64 0, .int .i64 0]
  have fz0 := z0.free 0
  have fz1 := z0.free 1
  obtain ⟨x0, x1, _⟩ := z0.st
  clear h hf
  go_enter Try.func20, Try.ntmps20
  go_wp2_with (fail)
  refine HF.out.mono ?_
  rintro e w1 ⟨rfl, rfl⟩
  go_wp2_with (fail)
  refine ret_st2 (g := w.heap.size) (T := 29) (m := 0) (c := 0) Try.results20 rfl rfl ?_ ?_
  · exact At.new _ _ _
  · exact ⟨rfl, (Chg.refl _ _).alloc _⟩
set_option maxHeartbeats 1600000 in
theorem xat_yes (h : LxH w0 w gx A c l nx) (hl : l.length ≤ 1000000) (k now : Int) {x : LV} (hf : fndL l k = some x) : Calls Try.prog 20 #[.pointer (some ⟨gx, 0, none⟩), .int .i64 k, .int .i64 now] w fun e w' => e = .returned (.tuple #[.agg #[.int .i64 (if x.u ≤ now then 0 else x.m), .int .i64 (if x.u ≤ now then 0 else x.c)], .int .i64 (if x.u ≤ now then 19 else 0)]) ∧ Chg [] w w' := by
  by_cases hu : x.u ≤ now
  · rw [if_pos hu, if_pos hu, if_pos hu]
    have q0 := (Chg.refl [] w).alloc (.cells #[.int .i64 0, .int .i64 0] 29)
    have H0 := Lib.hid (h.k0 q0)
    have HF := Lib.hid (xfind_yes H0.out hl k hf)
    have z0 := At.new w 29 #[.int .i64 0, .int .i64 0]
    have fz0 := z0.free 0
    have fz1 := z0.free 1
    obtain ⟨x0, x1, _⟩ := z0.st
    have c0 : (w.alloc (.cells #[.int .i64 0, .int .i64 0] 29)).cell? ⟨gx, 0, none⟩ = some (.slice A l.length c) := H0.out.at_.cell 0
    have hub : decide (x.u ≤ now) = true := decide_eq_true hu
    clear h hf hu
    go_enter Try.func20, Try.ntmps20
    go_wp2_with (fail)
    refine HF.out.mono ?_
    rintro e w1 ⟨i, rfl, rfl, hi⟩
    obtain ⟨hil, hx⟩ := List.getElem?_eq_some_iff.1 hi
    obtain ⟨g, rfl, hg, hgx, r0, r1, r2, r3⟩ := H0.out.pick hil
    have hii : (i : Int) < (l.length : Int) := by omega
    have hi0 : decide ((i : Int) < 0) = false := decide_eq_false (by omega)
    rw [hx] at r0 r1 r2 r3
    clear HF hi hx
    go_wp2_with (fail)
    refine ret_st2 (g := w.heap.size) (T := 29) (m := 0) (c := 0) Try.results20 rfl rfl ?_ ?_
    · exact At.new _ _ _
    · exact ⟨rfl, (Chg.refl _ _).alloc _⟩
  · rw [if_neg hu, if_neg hu, if_neg hu]
    have q0 := (Chg.refl [] w).alloc (.cells #[.int .i64 0, .int .i64 0] 29)
    have H0 := Lib.hid (h.k0 q0)
    have HF := Lib.hid (xfind_yes H0.out hl k hf)
    have z0 := At.new w 29 #[.int .i64 0, .int .i64 0]
    have fz0 := z0.free 0
    have fz1 := z0.free 1
    obtain ⟨x0, x1, _⟩ := z0.st
    have c0 : (w.alloc (.cells #[.int .i64 0, .int .i64 0] 29)).cell? ⟨gx, 0, none⟩ = some (.slice A l.length c) := H0.out.at_.cell 0
    have hub : decide (x.u ≤ now) = false := decide_eq_false hu
    clear h hf hu
    go_enter Try.func20, Try.ntmps20
    go_wp2_with (fail)
    refine HF.out.mono ?_
    rintro e w1 ⟨i, rfl, rfl, hi⟩
    obtain ⟨hil, hx⟩ := List.getElem?_eq_some_iff.1 hi
    obtain ⟨g, rfl, hg, hgx, r0, r1, r2, r3⟩ := H0.out.pick hil
    have hii : (i : Int) < (l.length : Int) := by omega
    have hi0 : decide ((i : Int) < 0) = false := decide_eq_false (by omega)
    rw [hx] at r0 r1 r2 r3
    clear HF hi hx
    go_wp2_with (fail)
    refine ret_st2 (g := w.heap.size) (T := 29) (m := x.m) (c := x.c) Try.results20 rfl rfl ?_ ?_
    · exact At.new _ _ _
    · exact ⟨rfl, (Chg.refl _ _).alloc _⟩
end
end Go.Proofs.Ytbijglnkohmafaa
