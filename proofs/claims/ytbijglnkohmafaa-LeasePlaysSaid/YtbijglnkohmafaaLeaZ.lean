
/-
  lease: the reference: Renew, Close, Expire, Floor.
-/
import Derived.Test.YtbijglnkohmafaaLeaY
import Derived.Test.YtbijglnkohmafaaLeaD
import Derived.Deep.DeepCutAuto
namespace Go.Proofs.Ytbijglnkohmafaa
open Go.RowKit Go.Maps
set_option linter.unusedVariables false
set_option linter.unusedSimpArgs false
attribute [local go_sem ↓] run_min2 run_max2
theorem own_setN {w : World} {base : Nat} {e : TypeId} {size n c g : Nat} {xs : List Value} (h : w.ownsRow base e size (.slice (some ⟨g, 0, none⟩) n c) n xs) (k : Nat) (u : Value) :
    (w.setCell ⟨g, k, none⟩ u).ownsRow base e size (.slice (some ⟨g, 0, none⟩) n c) n (xs.set k u) := by
  refine ⟨by simp [h.1], ?_⟩
  rcases h.2 with ⟨h1, _⟩ | ⟨g', cap, cur, h1, h2, h3, h4, h5, h6, h7⟩
  · cases h1
  · injection h1 with h1 _ hcc
    injection h1 with h1
    injection h1 with h1
    subst h1 hcc
    refine .inr ⟨g, c, cur.setIfInBounds k u, rfl, h2, At.set_ (t := e) h3 k u, h4, h5, by simpa using h6, ?_⟩
    rw [← h7]
    simp only [Array.toList_setIfInBounds]
    rw [List.take_set]
theorem own_free {w : World} {base : Nat} {e : TypeId} {size n c g : Nat} {xs : List Value} (h : w.ownsRow base e size (.slice (some ⟨g, 0, none⟩) n c) n xs) (j : Nat) : w.frozen? ⟨g, j, none⟩ = false := by
  rcases h.2 with ⟨h1, _⟩ | ⟨g', cap, cur, h1, h2, h3, _⟩
  · cases h1
  · injection h1 with h1 _ _
    injection h1 with h1
    injection h1 with h1
    subst h1
    exact At.free (t := e) h3 j
theorem cLV_set3 : ∀ {ms : List LV} {i : Nat} {x : LV} {u : Value} (hi : i < ms.length) (hx : x.cells = (ms[i].cells).set 3 u), cLV (ms.set i x) = (cLV ms).set (i * 4 + 3) u
  | a :: l, 0, x, u, _, hx => by
    show cLV (x :: l) = (cLV (a :: l)).set 3 u
    show x.cells ++ cLV l = (a.cells ++ cLV l).set 3 u
    rw [List.set_append_left _ _ (by show 3 < 4; omega), hx]; rfl
  | a :: l, i + 1, x, u, hi, hx => by
    show a.cells ++ cLV (l.set i x) = (a.cells ++ cLV l).set ((i + 1) * 4 + 3) u
    rw [List.set_append_right _ _ (by show 4 ≤ _; omega), cLV_set3 (ms := l) (i := i) (by simpa using hi) hx]
    have e : (i + 1) * 4 + 3 - a.cells.length = i * 4 + 3 := by show (i + 1) * 4 + 3 - 4 = _; omega
    rw [e]
theorem setL_at : ∀ {l : List LV} {i : Nat} {x : LV} (nd : (l.map LV.id).Nodup) (hi : l[i]? = some x) (m c u : Int), l.set i ⟨x.id, m, c, u⟩ = setL l x.id m c u
  | a :: l, 0, x, nd, hi, m, c, u => by
    obtain rfl : a = x := by simpa using hi
    rw [List.map_cons, List.nodup_cons] at nd
    unfold setL
    rw [List.map_cons, if_pos rfl, List.set_cons_zero]
    congr 1
    have : ∀ y ∈ l, (if y.id = a.id then (⟨a.id, m, c, u⟩ : LV) else y) = y := fun y hy => if_neg (fun e => nd.1 (by rw [← e]; exact List.mem_map_of_mem hy))
    rw [List.map_congr_left this]; simp
  | a :: l, i + 1, x, nd, hi, m, c, u => by
    have hi' : l[i]? = some x := by simpa using hi
    rw [List.map_cons, List.nodup_cons] at nd
    have hne : ¬ a.id = x.id := fun e => nd.1 (by rw [e]; exact List.mem_map_of_mem (List.mem_of_getElem? hi'))
    rw [List.set_cons_succ, setL_at nd.2 hi']
    unfold setL
    rw [List.map_cons, if_neg hne]
theorem delL_at : ∀ {l : List LV} {i : Nat} {x : LV} (nd : (l.map LV.id).Nodup) (hi : l[i]? = some x), l.eraseIdx i = delL l x.id
  | a :: l, 0, x, nd, hi => by
    obtain rfl : a = x := by simpa using hi
    rw [List.map_cons, List.nodup_cons] at nd
    unfold delL
    rw [List.filter_cons_of_neg (by simp), List.eraseIdx_cons_zero, List.filter_eq_self.2]
    intro y hy
    have : ¬ y.id = a.id := fun e => nd.1 (by rw [← e]; exact List.mem_map_of_mem hy)
    simpa using this
  | a :: l, i + 1, x, nd, hi => by
    have hi' : l[i]? = some x := by simpa using hi
    rw [List.map_cons, List.nodup_cons] at nd
    have hne : ¬ a.id = x.id := fun e => nd.1 (by rw [e]; exact List.mem_map_of_mem (List.mem_of_getElem? hi'))
    rw [List.eraseIdx_cons_succ, delL_at nd.2 hi']
    unfold delL
    rw [List.filter_cons_of_pos (by simpa using hne)]
theorem delL_none {l : List LV} {k : Int} (h : fndL l k = none) : delL l k = l := by
  unfold delL
  rw [List.filter_eq_self]
  intro y hy
  have := fndL_none h y hy
  simpa using this
theorem delL_ids {l : List LV} (nd : (l.map LV.id).Nodup) (k : Int) : ((delL l k).map LV.id).Nodup := nd.sublist ((List.filter_sublist).map _)
theorem delAll_ids (ids : List Int) : ∀ {l : List LV}, (l.map LV.id).Nodup → ((delAll l ids).map LV.id).Nodup := by
  induction ids with
  | nil => exact fun h => h
  | cons a ids ih => exact fun h => ih (delL_ids h a)
theorem delL_len1 {l : List LV} {i : Nat} {x : LV} (nd : (l.map LV.id).Nodup) (hi : l[i]? = some x) : (delL l x.id).length + 1 = l.length := by
  have hlt : i < l.length := (List.getElem?_eq_some_iff.1 hi).1
  rw [← delL_at nd hi, List.length_eraseIdx, if_pos hlt]; omega
section
variable {w0 w w' : World} {gx : Nat} {A : Option Addr} {c : Nat} {l : List LV} {nx : Nat}
set_option maxHeartbeats 1600000 in
theorem xrenew_no (h : LxH w0 w gx A c l nx) (hl : l.length ≤ 1000000) (k now u : Int) (hf : fndL l k = none) : Calls Try.prog 21 #[.pointer (some ⟨gx, 0, none⟩), .int .i64 k, .int .i64 now, .int .i64 u] w fun e w' => e = .returned (.int .i64 7) ∧ Chg [] w w' := by
  have HX := Lib.hid (xat_no h hl k now hf)
  clear h hf
  go_enter Try.func21, Try.ntmps21
  go_wp2_with (fail)
  refine HX.out.mono ?_
  rintro e w1 ⟨rfl, hc⟩
  go_wp2_with (fail)
  go_ret
  exact ⟨rfl, hc.alloc _⟩
set_option maxHeartbeats 1600000 in
theorem xrenew_old (h : LxH w0 w gx A c l nx) (hl : l.length ≤ 1000000) (k now u : Int) {x : LV} (hf : fndL l k = some x) (hu : x.u ≤ now) : Calls Try.prog 21 #[.pointer (some ⟨gx, 0, none⟩), .int .i64 k, .int .i64 now, .int .i64 u] w fun e w' => e = .returned (.int .i64 19) ∧ Chg [] w w' := by
  have HX := Lib.hid (xat_yes h hl k now hf)
  rw [if_pos hu, if_pos hu, if_pos hu] at HX
  clear h hf hu
  go_enter Try.func21, Try.ntmps21
  go_wp2_with (fail)
  refine HX.out.mono ?_
  rintro e w1 ⟨rfl, hc⟩
  go_wp2_with (fail)
  go_ret
  exact ⟨rfl, hc.alloc _⟩
set_option maxRecDepth 100000 in
set_option maxHeartbeats 3200000 in
theorem xrenew_yes (h : LxH w0 w gx A c l nx) (nd : (l.map LV.id).Nodup) (hl : l.length ≤ 1000000) (k now u : Int) {x : LV} (hf : fndL l k = some x) (hu : now < x.u) : Calls Try.prog 21 #[.pointer (some ⟨gx, 0, none⟩), .int .i64 k, .int .i64 now, .int .i64 u] w fun e w' => e = .returned (.int .i64 0) ∧ LxH w0 w' gx A c (setL l k x.m x.c (max x.u u)) nx ∧ Chg (blk A) w w' := by
  have HX := Lib.hid (xat_yes h hl k now hf)
  have hn : ¬ x.u ≤ now := by omega
  rw [if_neg hn, if_neg hn, if_neg hn] at HX
  have HK : Hid (x.id = k) := (fndL_some hf).2
  have H0 := Lib.hid h
  have HNd := Lib.hid nd
  clear h hu hn nd
  go_enter Try.func21, Try.ntmps21
  go_wp2_with (fail)
  refine HX.out.mono ?_
  rintro e w1 ⟨rfl, hc⟩
  have q1 := (Chg.refl [] w1).alloc (.cells #[.int .i64 x.m, .int .i64 x.c] 29)
  have HC : Hid (Chg [] w (w1.alloc (.cells #[.int .i64 x.m, .int .i64 x.c] 29))) := hc.trans q1 (by simp)
  have HW := Lib.hid (H0.out.k0 HC.out)
  clear HX hc q1
  go_wp2_with (fail)
  refine (xfind_yes HW.out hl k hf).mono ?_
  rintro e w2 ⟨i, rfl, hw2, hi⟩
  have HI := Lib.hid hi
  have HIL : Hid (i < l.length) := (List.getElem?_eq_some_iff.1 hi).1
  have HIX : Hid (l[i]'HIL.out = x) := (List.getElem?_eq_some_iff.1 hi).2
  rw [← hw2] at HC HW
  clear hi hw2 H0
  go_upto_region 5 with (fail)
  generalize w2 = wz at *
  obtain ⟨xi, xm, xc, xu⟩ := x
  simp only at HK HIX
  subst k
  obtain ⟨g, rfl, hg, hgx, r0, r1, r2, r3⟩ := HW.out.pick HIL.out
  rw [HIX.out] at r3
  simp only at r3
  have HGN : Hid (g ≠ gx) := hgx
  have HGB : Hid (w0.heap.size ≤ g) := (own_in HW.out.row g (by simp [blk])).1
  have c0' : wz.drew.cell? ⟨gx, 0, none⟩ = some (.slice (some ⟨g, 0, none⟩) l.length c) := (HW.out.k0 ((Chg.refl [] wz).drew)).at_.cell 0
  have r3' : wz.drew.cell? ⟨g, i * 4 + 3, none⟩ = some (.int .i64 xu) := (((Chg.refl [] wz).drew).cell (p := ⟨g, i * 4 + 3, none⟩) hg (by simp)).trans r3
  have hii : (i : Int) < (l.length : Int) := by have := HIL.out; omega
  have hfr : wz.drew.frozen? ⟨g, i * 4 + 3, none⟩ = false := own_free (HW.out.k0 ((Chg.refl [] wz).drew)).row _
  have hset := setL_at HNd.out HI.out xm xc (max xu u)
  simp only at hset
  have HSE := Lib.hid hset
  clear hset
  clear r0 r1 r2 r3 hg hgx hf
  refine wp_regionE 17 (fun w' => w'.cell? ⟨gx, 0, none⟩ = some (.slice (some ⟨g, 0, none⟩) l.length c) ∧ w'.cell? ⟨g, i * 4 + 3, none⟩ = some (.int .i64 xu)) (by kernel_rfl) ?_ (fun hHeld => ?_)
  · exact ⟨c0', r3'⟩
  refine takeWE (i := 0) (d := (some 25)) (v := ?_) rfl rfl (by kernel_rfl) (by kernel_rfl) (by kernel_rfl) (by kernel_rfl) (by kernel_rfl) (fun _ _ _ h => h) (by rfl) ?_ (by assumption) ?_
  rotate_left
  · intro w' hSw; (try dsimp only at hSw); go_simp; try with_reducible rfl
  try simp only [Act.put, List.setIfInBounds_toArray, List.set_cons_zero, List.set_cons_succ]
  refine takeWE (i := 1) (d := (some 26)) (v := ?_) rfl rfl (by kernel_rfl) (by kernel_rfl) (by kernel_rfl) (by kernel_rfl) (by kernel_rfl) (fun _ _ _ h => h) (by rfl) ?_ (by assumption) ?_
  rotate_left
  · intro w' hSw; (try dsimp only at hSw); go_simp; try with_reducible rfl
  try simp only [Act.put, List.setIfInBounds_toArray, List.set_cons_zero, List.set_cons_succ]
  refine takeWE (i := 2) (d := (some 27)) (v := ?_) rfl rfl (by kernel_rfl) (by kernel_rfl) (by kernel_rfl) (by kernel_rfl) (by kernel_rfl) (fun _ _ _ h => h) (by rfl) ?_ (by assumption) ?_
  rotate_left
  · intro w' hSw; (try dsimp only at hSw); go_simp; try with_reducible rfl
  try simp only [Act.put, List.setIfInBounds_toArray, List.set_cons_zero, List.set_cons_succ]
  refine takeWE (i := 3) (d := (some 28)) (v := ?_) rfl rfl (by kernel_rfl) (by kernel_rfl) (by kernel_rfl) (by kernel_rfl) (by kernel_rfl) (fun _ _ _ h => h) (by rfl) ?_ (by assumption) ?_
  rotate_left
  · intro w' hSw; (try dsimp only at hSw); go_simp; try with_reducible rfl
  try simp only [Act.put, List.setIfInBounds_toArray, List.set_cons_zero, List.set_cons_succ]
  refine takeWE (i := 4) (d := (some 29)) (v := ?_) rfl rfl (by kernel_rfl) (by kernel_rfl) (by kernel_rfl) (by kernel_rfl) (by kernel_rfl) (fun _ _ _ h => h) (by rfl) ?_ (by assumption) ?_
  rotate_left
  · intro w' hSw; (try dsimp only at hSw); go_simp; try with_reducible rfl
  try simp only [Act.put, List.setIfInBounds_toArray, List.set_cons_zero, List.set_cons_succ]
  refine takeWE (i := 5) (d := (some 30)) (v := ?_) rfl rfl (by kernel_rfl) (by kernel_rfl) (by kernel_rfl) (by kernel_rfl) (by kernel_rfl) (fun _ _ _ h => h) (by rfl) ?_ (by assumption) ?_
  rotate_left
  · intro w' hSw; (try dsimp only at hSw); go_simp; try with_reducible rfl
  try simp only [Act.put, List.setIfInBounds_toArray, List.set_cons_zero, List.set_cons_succ]
  refine takeWE (i := 6) (d := (some 31)) (v := ?_) rfl rfl (by kernel_rfl) (by kernel_rfl) (by kernel_rfl) (by kernel_rfl) (by kernel_rfl) (fun _ _ _ h => h) (by rfl) ?_ (by assumption) ?_
  rotate_left
  · intro w' hSw; (try dsimp only at hSw); go_simp; try with_reducible rfl
  try simp only [Act.put, List.setIfInBounds_toArray, List.set_cons_zero, List.set_cons_succ]
  refine takeWE (i := 7) (d := (some 32)) (v := ?_) rfl rfl (by kernel_rfl) (by kernel_rfl) (by kernel_rfl) (by kernel_rfl) (by kernel_rfl) (fun _ _ _ h => h) (by rfl) ?_ (by assumption) ?_
  rotate_left
  · intro w' hSw; (try dsimp only at hSw); go_simp; try with_reducible rfl
  try simp only [Act.put, List.setIfInBounds_toArray, List.set_cons_zero, List.set_cons_succ]
  refine takeWE (i := 8) (d := (some 33)) (v := ?_) rfl rfl (by kernel_rfl) (by kernel_rfl) (by kernel_rfl) (by kernel_rfl) (by kernel_rfl) (fun _ _ _ h => h) (by rfl) ?_ (by assumption) ?_
  rotate_left
  · intro w' hSw; (try dsimp only at hSw); go_simp; try with_reducible rfl
  try simp only [Act.put, List.setIfInBounds_toArray, List.set_cons_zero, List.set_cons_succ]
  refine takeWE (i := 9) (d := (some 34)) (v := ?_) rfl rfl (by kernel_rfl) (by kernel_rfl) (by kernel_rfl) (by kernel_rfl) (by kernel_rfl) (fun _ _ _ h => h) (by rfl) ?_ (by assumption) ?_
  rotate_left
  · intro w' hSw; (try dsimp only at hSw); go_simp; try with_reducible rfl
  try simp only [Act.put, List.setIfInBounds_toArray, List.set_cons_zero, List.set_cons_succ]
  refine takeWE (i := 10) (d := (some 35)) (v := ?_) rfl rfl (by kernel_rfl) (by kernel_rfl) (by kernel_rfl) (by kernel_rfl) (by kernel_rfl) (fun _ _ _ h => h) (by rfl) ?_ (by assumption) ?_
  rotate_left
  · intro w' hSw; (try dsimp only at hSw); go_simp; try with_reducible rfl
  try simp only [Act.put, List.setIfInBounds_toArray, List.set_cons_zero, List.set_cons_succ]
  refine takeWE (i := 11) (d := (some 36)) (v := ?_) rfl rfl (by kernel_rfl) (by kernel_rfl) (by kernel_rfl) (by kernel_rfl) (by kernel_rfl) (fun _ _ _ h => h) (by rfl) ?_ (by assumption) ?_
  rotate_left
  · intro w' hSw; (try dsimp only at hSw); go_simp; try with_reducible rfl
  try simp only [Act.put, List.setIfInBounds_toArray, List.set_cons_zero, List.set_cons_succ]
  refine takeWE (i := 12) (d := (some 37)) (v := ?_) rfl rfl (by kernel_rfl) (by kernel_rfl) (by kernel_rfl) (by kernel_rfl) (by kernel_rfl) (fun _ _ _ h => h) (by rfl) ?_ (by assumption) ?_
  rotate_left
  · intro w' hSw; (try dsimp only at hSw); go_simp; try with_reducible rfl
  try simp only [Act.put, List.setIfInBounds_toArray, List.set_cons_zero, List.set_cons_succ]
  refine takeWE (i := 13) (d := (some 38)) (v := ?_) rfl rfl (by kernel_rfl) (by kernel_rfl) (by kernel_rfl) (by kernel_rfl) (by kernel_rfl) (fun _ _ _ h => h) (by rfl) ?_ (by assumption) ?_
  rotate_left
  · intro w' hSw; (try dsimp only at hSw); go_simp; try with_reducible rfl
  try simp only [Act.put, List.setIfInBounds_toArray, List.set_cons_zero, List.set_cons_succ]
  refine takeWE (i := 14) (d := (some 39)) (v := ?_) rfl rfl (by kernel_rfl) (by kernel_rfl) (by kernel_rfl) (by kernel_rfl) (by kernel_rfl) (fun _ _ _ h => h) (by rfl) ?_ (by assumption) ?_
  rotate_left
  · intro w' hSw; (try dsimp only at hSw); go_simp; try with_reducible rfl
  try simp only [Act.put, List.setIfInBounds_toArray, List.set_cons_zero, List.set_cons_succ]
  refine takeWE (i := 15) (d := (some 40)) (v := ?_) rfl rfl (by kernel_rfl) (by kernel_rfl) (by kernel_rfl) (by kernel_rfl) (by kernel_rfl) (fun _ _ _ h => h) (by rfl) ?_ (by assumption) ?_
  rotate_left
  · intro w' hSw; (try dsimp only at hSw); go_simp; try with_reducible rfl
  try simp only [Act.put, List.setIfInBounds_toArray, List.set_cons_zero, List.set_cons_succ]
  refine takeWE (i := 16) (d := (some 41)) (v := ?_) rfl rfl (by kernel_rfl) (by kernel_rfl) (by kernel_rfl) (by kernel_rfl) (by kernel_rfl) (fun _ _ _ h => h) (by rfl) ?_ (by assumption) ?_
  rotate_left
  · intro w' hSw; (try dsimp only at hSw); go_simp; try with_reducible rfl
  try simp only [Act.put, List.setIfInBounds_toArray, List.set_cons_zero, List.set_cons_succ]
  refine wpE_ready (rs := [17]) (by kernel_rfl) (by simp) ?_
  refine AllE.last rfl (by kernel_rfl) (fun K hK => ?_)
  go_simp
  go_wp2_with (fail)
  refine hK.out _ _ ?_
  clear hK K hHeld
  have q6 : Chg [g] wz (wz.setCell ⟨g, i * 4 + 3, none⟩ (.int .i64 (max xu u))) := (Chg.refl [g] wz).setCell (.inl (by simp)) _
  have q7 : Chg [g] wz ((wz.setCell ⟨g, i * 4 + 3, none⟩ (.int .i64 (max xu u))).drew) := q6.drew
  have hrow : ((wz.setCell ⟨g, i * 4 + 3, none⟩ (.int .i64 (max xu u))).drew).ownsRow w0.heap.size 70 4 (.slice (some ⟨g, 0, none⟩) l.length c) l.length (cLV (l.set i ⟨xi, xm, xc, max xu u⟩)) := by
    rw [cLV_set3 HIL.out (by rw [HIX.out]; rfl)]
    exact own_k0 (own_setN HW.out.row _ _) ((Chg.refl [] _).drew)
  have hat : At ((wz.setCell ⟨g, i * 4 + 3, none⟩ (.int .i64 (max xu u))).drew) gx 48 #[.slice (some ⟨g, 0, none⟩) l.length c, .int .i64 (nx : Int)] := HW.out.at_.keep q7 (by simpa using Ne.symm HGN.out)
  have hsl : (l.set i ⟨xi, xm, xc, max xu u⟩).length = l.length := List.length_set
  go_wp2_with (fail)
  go_ret
  rw [← HSE.out]
  have hcw := (HC.out.mono (T := [g]) (by simp)).trans q7 (by simp)
  refine ⟨rfl, ⟨by rw [hsl]; exact hat, by rw [hsl]; exact hrow, HW.out.new, HW.out.chg.trans q7 (by simp; exact HGB.out)⟩, hcw⟩
set_option maxHeartbeats 3200000 in
theorem xclose_all (h : LxH w0 w gx A c l nx) (nd : (l.map LV.id).Nodup) (B : Option Addr) (n c2 : Nat) (ids : List Int) (hn : ids.length = n) (hI : ∀ w', Chg [gx] w w' → Rd w' 1 B ids.length (cLI ids)) (hil : ids.length ≤ 140737488355328) (hl : l.length ≤ 1000000) :
    Calls Try.prog 22 #[.pointer (some ⟨gx, 0, none⟩), .slice B n c2] w fun e w' => ∃ A' c', e = .returned (.int .i64 ((l.length : Int) - ((delAll l ids).length : Int))) ∧ LxH w0 w' gx A' c' (delAll l ids) nx ∧ Chg [gx] w w' := by
  subst hn
  have HH := Lib.hid h
  have HI := Lib.hid hI
  have HN := Lib.hid nd
  clear h hI nd
  go_enter Try.func22, Try.ntmps22
  go_wp2_with (fail)
  go_loopw [5, 6] (fun m i wr => ∃ (q : Nat) (A' : Option Addr) (c' : Nat), q ≤ ids.length ∧ i = .int .i64 q ∧ m = .int .i64 ((l.length : Int) - ((delAll l (ids.take q)).length : Int)) ∧ Hid (LxH w0 wr gx A' c' (delAll l (ids.take q)) nx ∧ Chg [gx] w wr)) (fun _ i _ => ids.length - (intOf i).toNat)
  case atStart => exact ⟨0, A, c, Nat.zero_le _, rfl, by show _ = Value.int _ ((l.length : Int) - (l.length : Int)); rw [Int.sub_self], HH.out, Chg.refl _ _⟩
  case round =>
    obtain ⟨q, A', c', hq, rfl, rfl, HR⟩ := hrel
    obtain ⟨hL, hcw⟩ := HR.out
    by_cases hlt : q < ids.length
    · obtain ⟨ad, u, rfl, had, hu, hc⟩ := (HI.out _ hcw).get hlt
      obtain rfl : Value.int .i64 ids[q] = u := by rw [cLI_get hlt] at hu; simpa using hu
      have HT : Hid (delAll l (ids.take (q + 1)) = delL (delAll l (ids.take q)) ids[q]) := by
        unfold Hid delAll; rw [List.take_succ_eq_append_getElem hlt, List.foldl_append]; rfl
      have HND : Hid (((delAll l (ids.take q)).map LV.id).Nodup) := delAll_ids _ HN.out
      have hle := delAll_le (ids.take q) l
      have HL := Lib.hid hL
      have HC := Lib.hid hcw
      have hqi : (q : Int) < (ids.length : Int) := by omega
      generalize ids[q] = z at *
      generalize delAll l (ids.take q) = cur at *
      clear hu HR hL hcw
      cases hf : fndL cur z with
      | none =>
        have HF := Lib.hid hf
        have hdz := delL_none hf
        rw [hdz] at HT
        clear hf hdz
        go_wp2_with (fail)
        refine (xfind_no HL.out (by omega) z HF.out).mono ?_
        rintro e w2 ⟨rfl, rfl⟩
        go_wp2_with (fail)
        go_roundw
        case rel => exact ⟨q + 1, A', c', by omega, by go_num, by rw [HT.out], by rw [HT.out]; exact ⟨HL.out, HC.out⟩⟩
        case measure => simp [intOf] <;> omega
      | some x =>
        have HF := Lib.hid hf
        have HXI : Hid (x.id = z) := (fndL_some hf).2
        clear hf
        go_wp2_with (fail)
        refine (xfind_yes HL.out (by omega) z HF.out).mono ?_
        rintro e w2 ⟨i, rfl, rfl, hi⟩
        have HI2 := Lib.hid hi
        have hil2 : i < cur.length := (List.getElem?_eq_some_iff.1 hi).1
        have hi0 : decide ((0 : Int) ≤ (i : Int)) = true := decide_eq_true (by omega)
        have HD := Lib.hid (xdrop_all HL.out i hil2 (by omega))
        rw [delL_at HND.out HI2.out, HXI.out] at HD
        have hdl := delL_len1 HND.out HI2.out
        rw [HXI.out] at hdl
        clear hi
        go_wp2_with (fail)
        refine HD.out.mono ?_
        rintro e w3 ⟨A3, c3, rfl, hL3, hc3, _⟩
        have HL3 := Lib.hid hL3
        have HC3 : Hid (Chg [gx] w w3) := HC.out.trans hc3 (by simp)
        have hw1 : IntKind.i64.wrap ((l.length : Int) - (cur.length : Int) + 1) = (l.length : Int) - ((delL cur z).length : Int) := by rw [IntWalk.i64_in _ (by omega)]; omega
        clear HD hL3 hc3
        go_wp2_with (fail)
        go_roundw
        case rel => exact ⟨q + 1, A3, c3, by omega, by go_num, by rw [HT.out, ← hw1], by rw [HT.out]; exact ⟨HL3.out, HC3.out⟩⟩
        case measure => simp [intOf] <;> omega
    · obtain rfl : q = ids.length := by omega
      rw [List.take_length] at *
      have HL := Lib.hid hL
      have HC := Lib.hid hcw
      have hqi : ¬ (ids.length : Int) < (ids.length : Int) := by omega
      clear HR hL hcw
      go_wp2_with (fail)
      go_ret
      first | exact ⟨rfl, ⟨A', c', HL.out⟩, HC.out⟩ | exact ⟨A', c', rfl, HL.out, HC.out⟩
set_option maxHeartbeats 3200000 in
theorem xexpire_all (h : LxH w0 w gx A c l nx) (now : Int) (hl : l.length ≤ 1000000) :
    Calls Try.prog 23 #[.pointer (some ⟨gx, 0, none⟩), .int .i64 now] w fun e w' => ∃ A' c', e = .returned (.int .i64 ((l.length : Int) - ((expL l now).length : Int))) ∧ LxH w0 w' gx A' c' (expL l now) nx ∧ Chg [gx] w w' := by
  have HH := Lib.hid h
  have c0 : w.cell? ⟨gx, 0, none⟩ = some (.slice A l.length c) := h.at_.cell 0
  have hw0 : IntKind.i64.wrap ((l.length : Int) - 1) = (l.length : Int) - 1 := IntWalk.i64_in _ (by omega)
  clear h
  go_enter Try.func23, Try.ntmps23
  go_wp2_with (fail)
  clear c0
  go_loopw [5, 6] (fun m i wr => ∃ (q : Nat) (A' : Option Addr) (c' : Nat), q ≤ l.length ∧ i = .int .i64 ((q : Int) - 1) ∧ m = .int .i64 ((l.length : Int) - ((l.take q ++ expL (l.drop q) now).length : Int)) ∧ Hid (LxH w0 wr gx A' c' (l.take q ++ expL (l.drop q) now) nx ∧ Chg [gx] w wr)) (fun _ i _ => (intOf i + 1).toNat)
  case atStart => exact ⟨l.length, A, c, Nat.le_refl _, rfl, by rw [List.take_length, List.drop_length]; show _ = Value.int _ ((l.length : Int) - ((l ++ []).length : Int)); rw [List.append_nil, Int.sub_self], by rw [List.take_length, List.drop_length]; show LxH w0 w gx A c (l ++ []) nx ∧ _; rw [List.append_nil]; exact ⟨HH.out, Chg.refl _ _⟩⟩
  case round =>
    obtain ⟨q, A', c', hq, rfl, rfl, HR⟩ := hrel
    obtain ⟨hL, hcw⟩ := HR.out
    by_cases hlt : 0 < q
    · obtain ⟨p, rfl⟩ : ∃ p, q = p + 1 := ⟨q - 1, by omega⟩
      have hp : p < l.length := by omega
      have hi1 : decide ((0 : Int) ≤ ((p + 1 : Nat) : Int) - 1) = true := decide_eq_true (by omega)
      have hpe : ((p + 1 : Nat) : Int) - 1 = (p : Int) := by omega
      rw [hpe] at hi1 ⊢
      have hcl : p < (l.take (p + 1) ++ expL (l.drop (p + 1)) now).length := by rw [List.length_append, List.length_take]; omega
      have HG : Hid ((l.take (p + 1) ++ expL (l.drop (p + 1)) now)[p]'hcl = l[p]) := by
        unfold Hid
        rw [List.getElem_append_left (by rw [List.length_take]; omega), List.getElem_take]
      have HDr : Hid (l.drop p = l[p] :: l.drop (p + 1)) := List.drop_eq_getElem_cons hp
      have HTk : Hid (l.take (p + 1) = l.take p ++ [l[p]]) := List.take_succ_eq_append_getElem hp
      have hmx : (expL (l.drop (p + 1)) now).length ≤ (l.drop (p + 1)).length := List.length_filter_le _ _
      have hcm : (l.take (p + 1) ++ expL (l.drop (p + 1)) now).length ≤ l.length := by rw [List.length_append, List.length_take]; rw [List.length_drop] at hmx; omega
      obtain ⟨g, rfl, hg, hgx, r0, r1, r2, r3⟩ := hL.pick hcl
      rw [HG.out] at r3
      have hpi : (p : Int) < ((l.take (p + 1) ++ expL (l.drop (p + 1)) now).length : Int) := by omega
      have c0 : wr.cell? ⟨gx, 0, none⟩ = some (.slice (some ⟨g, 0, none⟩) (l.take (p + 1) ++ expL (l.drop (p + 1)) now).length c') := hL.at_.cell 0
      have HL := Lib.hid hL
      have HC := Lib.hid hcw
      have hw1 : IntKind.i64.wrap ((p : Int) - 1) = (p : Int) - 1 := IntWalk.i64_in _ (by omega)
      clear HR hL hcw HG r0 r1 r2
      by_cases hu : l[p].u ≤ now
      · have hub : decide (l[p].u ≤ now) = true := decide_eq_true hu
        have HE : Hid ((l.take (p + 1) ++ expL (l.drop (p + 1)) now).eraseIdx p = l.take p ++ expL (l.drop p) now) := by
          unfold Hid
          rw [HDr.out, HTk.out, List.append_assoc, List.eraseIdx_append_of_length_le (by rw [List.length_take]; omega)]
          have : p - (l.take p).length = 0 := by rw [List.length_take]; omega
          rw [this]
          unfold expL
          rw [List.filter_cons_of_neg (by simpa using hu)]; rfl
        have hel := congrArg List.length HE.out
        rw [List.length_eraseIdx, if_pos hcl] at hel
        generalize l[p] = x at *
        have HD := Lib.hid (xdrop_all HL.out p hcl (by omega))
        rw [HE.out] at HD
        generalize l.take (p + 1) ++ expL (l.drop (p + 1)) now = cur at *
        clear HDr HTk HE
        go_wp2_with (fail)
        refine HD.out.mono ?_
        rintro e w3 ⟨A3, c3, rfl, hL3, hc3, _⟩
        have HL3 := Lib.hid hL3
        have HC3 : Hid (Chg [gx] w w3) := HC.out.trans hc3 (by simp)
        have hw2 : IntKind.i64.wrap ((l.length : Int) - (cur.length : Int) + 1) = (l.length : Int) - ((l.take p ++ expL (l.drop p) now).length : Int) := by rw [IntWalk.i64_in _ (by omega)]; omega
        clear HD hL3 hc3 r3 c0
        go_wp2_with (fail)
        go_roundw
        case rel => exact ⟨p, A3, c3, by omega, by first | rfl | (rw [hw1]; done) | (simp; done), (by first | exact congrArg (Value.int .i64) hw2 | (congr 1; simp [List.length_append, List.length_take])), HL3.out, HC3.out⟩
        case measure => simp [intOf] <;> omega
      · have hub : decide (l[p].u ≤ now) = false := decide_eq_false hu
        have HE : Hid (l.take (p + 1) ++ expL (l.drop (p + 1)) now = l.take p ++ expL (l.drop p) now) := by
          unfold Hid
          rw [HDr.out, HTk.out, List.append_assoc]
          unfold expL
          rw [List.filter_cons_of_pos (by simpa using hu)]; rfl
        generalize l[p] = x at *
        clear HDr HTk
        go_wp2_with (fail)
        go_roundw
        case rel => exact ⟨p, _, c', by omega, by first | rfl | (rw [hw1]; done) | (simp; done), (by rw [← HE.out]), (by rw [← HE.out]; exact HL.out), HC.out⟩
        case measure => simp [intOf] <;> omega
    · obtain rfl : q = 0 := by omega
      have hi1 : decide ((0 : Int) ≤ ((0 : Nat) : Int) - 1) = false := by decide
      rw [List.take_zero, List.drop_zero, List.nil_append] at *
      have HL := Lib.hid hL
      have HC := Lib.hid hcw
      clear HR hL hcw
      go_wp2_with (fail)
      go_ret
      first | exact ⟨rfl, ⟨A', c', HL.out⟩, HC.out⟩ | exact ⟨A', c', rfl, HL.out, HC.out⟩
set_option maxRecDepth 100000 in
set_option maxHeartbeats 3200000 in
theorem xfloor_all (h : LxH w0 w gx A c l nx) (m cc : Int) (hl : l.length ≤ 1000000) : Calls Try.prog 25 #[.pointer (some ⟨gx, 0, none⟩), .agg #[.int .i64 m, .int .i64 cc]] w fun e w' => ∃ f : St, e = .returned (.agg #[.int .i64 f.m, .int .i64 f.c]) ∧ IsFloor l ⟨m, cc⟩ f ∧ Chg [] w w' := by
  have q0 := ((Chg.refl [] w).alloc (.cells #[.int .i64 m, .int .i64 cc] 29)).alloc (.cells #[.int .i64 0, .int .i64 0] 29)
  have z0 := Lib.hid ((At.new w 29 #[.int .i64 m, .int .i64 cc]).al (.cells #[.int .i64 0, .int .i64 0] 29))
  have z1 := Lib.hid (At.newG (w.alloc (.cells #[.int .i64 m, .int .i64 cc] 29)) 29 #[.int .i64 0, .int .i64 0] (g := w.heap.size + 1) (by simp))
  have H0 := Lib.hid h
  have HQ := Lib.hid q0
  clear h q0
  go_enter Try.func25, Try.ntmps25
  go_wp2_with (fail)
  generalize (w.alloc (.cells #[.int .i64 m, .int .i64 cc] 29)).alloc (.cells #[.int .i64 0, .int .i64 0] 29) = w2 at *
  have hgl : gx < w.heap.size := H0.out.at_.lt
  go_loopw [5] (fun i wr => ∃ (q : Nat) (f : St), q ≤ l.length ∧ i = .int .i64 q ∧ Hid (At wr w.heap.size 29 #[.int .i64 f.m, .int .i64 f.c] ∧ At wr (w.heap.size + 1) 29 #[.int .i64 0, .int .i64 0] ∧ Chg [] w wr) ∧ Hid (IsFloor (l.take q) ⟨m, cc⟩ f)) (fun i _ => l.length - (intOf i).toNat)
  case atStart => exact ⟨0, ⟨m, cc⟩, Nat.zero_le _, rfl, ⟨z0.out, z1.out, HQ.out⟩, ⟨.inl rfl, by rw [(cmpS_eq (a := ⟨m, cc⟩) (b := ⟨m, cc⟩)).2 ⟨rfl, rfl⟩]; omega, fun x hx => by simp at hx⟩⟩
  case round =>
    clear z0 z1 HQ
    obtain ⟨q, f, hq, rfl, HP, HF⟩ := hrel
    have HL := Lib.hid (H0.out.k0 HP.out.2.2)
    have c0 : wr.cell? ⟨gx, 0, none⟩ = some (.slice A l.length c) := HL.out.at_.cell 0
    by_cases hlt : q < l.length
    · obtain ⟨g, rfl, hg, hgx, r0, r1, r2, r3⟩ := HL.out.pick hlt
      have hqi : (q : Int) < (l.length : Int) := by omega
      have HT : Hid (l.take (q + 1) = l.take q ++ [l[q]]) := List.take_succ_eq_append_getElem hlt
      generalize l[q] = x at *
      obtain ⟨xi, xm, xc, xu⟩ := x
      obtain ⟨f0, f1⟩ := f
      simp only at r1 r2 HP HF
      generalize hg0 : w.heap.size = g0 at *
      have KK : Hid (∀ w', Chg [] wr w' → w'.cell? ⟨gx, 0, none⟩ = some (.slice (some ⟨g, 0, none⟩) l.length c) ∧ w'.cell? ⟨g, q * 4 + 1, none⟩ = some (.int .i64 xm) ∧ w'.cell? ⟨g, q * 4 + 2, none⟩ = some (.int .i64 xc) ∧ w'.cell? ⟨g0, 0, none⟩ = some (.int .i64 f0) ∧ w'.cell? ⟨g0, 1, none⟩ = some (.int .i64 f1)) := fun w' hc => ⟨(HL.out.k0 hc).at_.cell 0, (hc.cell (p := ⟨g, q * 4 + 1, none⟩) hg (by simp)).trans r1, (hc.cell (p := ⟨g, q * 4 + 2, none⟩) hg (by simp)).trans r2, (HP.out.1.keep hc (by simp)).cell 0, (HP.out.1.keep hc (by simp)).cell 1⟩
      clear r0 r3
      go_wp2_with (fail)
      refine wp_region_held_drew (S := fun w' => w'.cell? ⟨gx, 0, none⟩ = some (.slice (some ⟨g, 0, none⟩) l.length c) ∧ w'.cell? ⟨g, q * 4 + 1, none⟩ = some (.int .i64 xm) ∧ w'.cell? ⟨g, q * 4 + 2, none⟩ = some (.int .i64 xc) ∧ w'.cell? ⟨g0, 0, none⟩ = some (.int .i64 f0) ∧ w'.cell? ⟨g0, 1, none⟩ = some (.int .i64 f1)) (by kernel_rfl) ?_ (fun hHeld => ?_)
      · exact KK.out _ ((Chg.refl [] wr).drewN 1)
      refine takeW (i := 0) (d := (some 15)) (v := ?_) rfl rfl (by kernel_rfl) (by kernel_rfl) (by kernel_rfl) (fun _ _ _ h => h) (by rfl) ?_ (by assumption) ?_
      rotate_left
      · intro w' hSw; (try dsimp only at hSw); go_simp; try with_reducible rfl
      try simp only [Act.put, List.setIfInBounds_toArray, List.set_cons_zero, List.set_cons_succ]
      refine takeW (i := 1) (d := (some 16)) (v := ?_) rfl rfl (by kernel_rfl) (by kernel_rfl) (by kernel_rfl) (fun _ _ _ h => h) (by rfl) ?_ (by assumption) ?_
      rotate_left
      · intro w' hSw; (try dsimp only at hSw); go_simp; try with_reducible rfl
      try simp only [Act.put, List.setIfInBounds_toArray, List.set_cons_zero, List.set_cons_succ]
      refine takeW (i := 2) (d := (some 17)) (v := ?_) rfl rfl (by kernel_rfl) (by kernel_rfl) (by kernel_rfl) (fun _ _ _ h => h) (by rfl) ?_ (by assumption) ?_
      rotate_left
      · intro w' hSw; (try dsimp only at hSw); go_simp; try with_reducible rfl
      try simp only [Act.put, List.setIfInBounds_toArray, List.set_cons_zero, List.set_cons_succ]
      refine takeW (i := 3) (d := (some 18)) (v := ?_) rfl rfl (by kernel_rfl) (by kernel_rfl) (by kernel_rfl) (fun _ _ _ h => h) (by rfl) ?_ (by assumption) ?_
      rotate_left
      · intro w' hSw; (try dsimp only at hSw); go_simp; try with_reducible rfl
      try simp only [Act.put, List.setIfInBounds_toArray, List.set_cons_zero, List.set_cons_succ]
      refine takeW (i := 4) (d := (some 19)) (v := ?_) rfl rfl (by kernel_rfl) (by kernel_rfl) (by kernel_rfl) (fun _ _ _ h => h) (by rfl) ?_ (by assumption) ?_
      rotate_left
      · intro w' hSw; (try dsimp only at hSw); go_simp; try with_reducible rfl
      try simp only [Act.put, List.setIfInBounds_toArray, List.set_cons_zero, List.set_cons_succ]
      refine takeW (i := 5) (d := (some 20)) (v := ?_) rfl rfl (by kernel_rfl) (by kernel_rfl) (by kernel_rfl) (fun _ _ _ h => h) (by rfl) ?_ (by assumption) ?_
      rotate_left
      · intro w' hSw; (try dsimp only at hSw); go_simp; try with_reducible rfl
      try simp only [Act.put, List.setIfInBounds_toArray, List.set_cons_zero, List.set_cons_succ]
      refine takeW (i := 6) (d := (some 21)) (v := ?_) rfl rfl (by kernel_rfl) (by kernel_rfl) (by kernel_rfl) (fun _ _ _ h => h) (by rfl) ?_ (by assumption) ?_
      rotate_left
      · intro w' hSw; (try dsimp only at hSw); go_simp; try with_reducible rfl
      try simp only [Act.put, List.setIfInBounds_toArray, List.set_cons_zero, List.set_cons_succ]
      refine takeW (i := 7) (d := (some 22)) (v := ?_) rfl rfl (by kernel_rfl) (by kernel_rfl) (by kernel_rfl) (fun _ _ _ h => h) (by rfl) ?_ (by assumption) ?_
      rotate_left
      · intro w' hSw; (try dsimp only at hSw); go_simp; try with_reducible rfl
      try simp only [Act.put, List.setIfInBounds_toArray, List.set_cons_zero, List.set_cons_succ]
      refine takeW (i := 8) (d := (some 23)) (v := ?_) rfl rfl (by kernel_rfl) (by kernel_rfl) (by kernel_rfl) (fun _ _ _ h => h) (by rfl) ?_ (by assumption) ?_
      rotate_left
      · intro w' hSw; (try dsimp only at hSw); go_simp; try with_reducible rfl
      try simp only [Act.put, List.setIfInBounds_toArray, List.set_cons_zero, List.set_cons_succ]
      refine wpAnyH_ready (rs := [9]) (by kernel_rfl) (by simp) ?_
      refine AllReadyH.cons rfl (fun K hK => ?_) AllReadyH.nil
      go_simp
      go_at_call 14
      (with_reducible refine (refCompare_any xm xc f0 f1 _).mono ?_)
      rintro e w3 ⟨rfl, hch3⟩
      have hch23 : Hid (Chg [] wr w3) := ((by repeat' (first | (with_reducible assumption) | (with_reducible exact Chg.refl _ _) | (with_reducible refine Chg.alloc ?_ _) | (with_reducible refine Chg.drewN ?_ _) | (with_reducible refine Chg.drew ?_) | (with_reducible refine Chg.strW ?_ _ _) | (with_reducible refine Chg.t0 ?_ (by with_reducible assumption)))) : Chg [] wr w3)
      go_wp2_with (fail)
      refine hK.out _ _ ?_ (fun hHeld => ?_)
      · first | exact KK.out _ hch23.out | (dsimp only; exact KK.out _ hch23.out)
      clear hK K
      try simp only [Act.put, List.setIfInBounds_toArray, List.set_cons_zero, List.set_cons_succ]
      refine takeW (i := 10) (d := (some 25)) (v := ?_) rfl rfl (by kernel_rfl) (by kernel_rfl) (by kernel_rfl) (fun _ _ _ h => h) (by rfl) ?_ (by assumption) ?_
      rotate_left
      · intro w' hSw; (try dsimp only at hSw); go_simp; try with_reducible rfl
      try simp only [Act.put, List.setIfInBounds_toArray, List.set_cons_zero, List.set_cons_succ]
      refine wpAnyH_done (by kernel_rfl) ?_ _
      have HP3 : Hid (At w3 g0 29 #[.int .i64 f0, .int .i64 f1] ∧ At w3 (g0 + 1) 29 #[.int .i64 0, .int .i64 0] ∧ Chg [] w w3) := ⟨HP.out.1.keep hch23.out (by simp), HP.out.2.1.keep hch23.out (by simp), HP.out.2.2.trans hch23.out (by simp)⟩
      obtain ⟨k0, k1, k2, x0, x1⟩ := KK.out _ hch23.out
      have f0' := HP3.out.1.free 0
      have f1' := HP3.out.1.free 1
      clear r1 r2 c0 hHeld HP KK
      by_cases hlt2 : cmpS ⟨xm, xc⟩ ⟨f0, f1⟩ < 0
      · have hb1 : decide (cmpS ⟨xm, xc⟩ ⟨f0, f1⟩ < 0) = true := decide_eq_true hlt2
        have HP4 : Hid (At ((w3.setCell ⟨g0, 0, none⟩ (.int .i64 xm)).setCell ⟨g0, 1, none⟩ (.int .i64 xc)) g0 29 #[.int .i64 xm, .int .i64 xc] ∧ At ((w3.setCell ⟨g0, 0, none⟩ (.int .i64 xm)).setCell ⟨g0, 1, none⟩ (.int .i64 xc)) (g0 + 1) 29 #[.int .i64 0, .int .i64 0] ∧ Chg [] w ((w3.setCell ⟨g0, 0, none⟩ (.int .i64 xm)).setCell ⟨g0, 1, none⟩ (.int .i64 xc))) :=
          ⟨HP3.out.1.set2 _ _, HP3.out.2.1.keep ((Chg.refl [g0] _).set2 (.inl (by simp)) _ _) (by simp), HP3.out.2.2.set2 (.inr (by omega)) _ _⟩
        have HF4 : Hid (IsFloor (l.take (q + 1)) ⟨m, cc⟩ ⟨xm, xc⟩) := by
          rw [HT.out]
          refine ⟨.inr ⟨_, List.mem_append_right _ (List.mem_singleton.2 rfl), rfl⟩, cmpS_trans (by omega) HF.out.le, fun y hy => ?_⟩
          rcases List.mem_append.1 hy with hy | hy
          · exact cmpS_trans (by omega) (HF.out.all y hy)
          · obtain rfl := List.mem_singleton.1 hy
            have : cmpS ⟨xm, xc⟩ (LV.st ⟨xi, xm, xc, xu⟩) = 0 := cmpS_eq.2 ⟨rfl, rfl⟩
            omega
        go_wp2_with (fail)
        go_roundw
        case rel => exact ⟨q + 1, ⟨xm, xc⟩, by omega, by go_num, HP4.out, HF4.out⟩
        case measure => simp [intOf] <;> omega
      · have hb1 : decide (cmpS ⟨xm, xc⟩ ⟨f0, f1⟩ < 0) = false := decide_eq_false hlt2
        have HF4 : Hid (IsFloor (l.take (q + 1)) ⟨m, cc⟩ ⟨f0, f1⟩) := by
          rw [HT.out]
          refine ⟨HF.out.mem.imp id (fun ⟨y, hy, e⟩ => ⟨y, List.mem_append_left _ hy, e⟩), HF.out.le, fun y hy => ?_⟩
          rcases List.mem_append.1 hy with hy | hy
          · exact HF.out.all y hy
          · obtain rfl := List.mem_singleton.1 hy
            have h2 := cmpS_neg ⟨f0, f1⟩ ⟨xm, xc⟩
            show cmpS ⟨f0, f1⟩ ⟨xm, xc⟩ ≤ 0
            omega
        go_wp2_with (fail)
        go_roundw
        case rel => exact ⟨q + 1, ⟨f0, f1⟩, by omega, by go_num, HP3.out, HF4.out⟩
        case measure => simp [intOf] <;> omega
    · obtain rfl : q = l.length := by omega
      rw [List.take_length] at HF
      have hqi : ¬ (l.length : Int) < (l.length : Int) := by omega
      obtain ⟨x0, x1, _⟩ := HP.out.1.st
      obtain ⟨y0, y1, _⟩ := HP.out.2.1.st
      have f0 := HP.out.2.1.free 0
      have f1 := HP.out.2.1.free 1
      go_wp2_with (fail)
      refine ret_st (g := w.heap.size + 1) (T := 29) (m := f.m) (c := f.c) Try.results25 rfl ?_ ?_
      · exact HP.out.2.1.set2 _ _
      · exact ⟨f, rfl, HF.out, HP.out.2.2.set2 (.inr (by omega)) _ _⟩
end
end Go.Proofs.Ytbijglnkohmafaa
