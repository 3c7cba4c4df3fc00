
/-
  chain: slices.Insert of one version.
-/
import Derived.Test.YtmliclfepnebfaaChI
namespace Go.Proofs.Ytmliclfepnebfaa
open Go.RowKit
set_option linter.unusedVariables false
set_option linter.unusedSimpArgs false
section
variable {w : World} {base g n c i vb : Nat} {A : Option Addr} {xs vs : List Value}
set_option maxRecDepth 100000 in
set_option maxHeartbeats 6400000 in
theorem insert_shift (h : w.ownsRow base 28 6 (.slice (some ⟨g, 0, none⟩) n c) n xs) (hn : n ≤ 1000000) (hi : i < n) (hroom : n < c) (hv : At w vb 28 vs.toArray) (hvl : vs.length = 6) (hne : vb ≠ g) (h1 : ∀ v ∈ vs, v.oneCell' = true) (h1x : ∀ v ∈ xs, v.oneCell' = true) :
    Calls Try.prog 35 #[.slice (some ⟨g, 0, none⟩) n c, .int .i64 i, .slice (some ⟨vb, 0, none⟩) 1 1] w (InsPost base (some ⟨g, 0, none⟩) n i xs vs w) := by
  obtain ⟨i1, hi1, hy0, hy1, hy2⟩ := info_parts info_ver
  have hxl := h.1
  obtain ⟨_, ⟨h3, _⟩ | ⟨g', cap, cur, h3, hb, hh, hnc, hcm, hcs, htk⟩⟩ := h
  · cases h3
  injection h3 with h3 _ hcc
  injection h3 with h3
  injection h3 with h3
  subst h3 hcc
  have hat : At w g 28 cur.toList.toArray := by rw [Array.toArray_toList]; exact hh
  have hcl : cur.toList.length = c * 6 := by simpa using hcs
  have hxd : (xs.drop (i * 6)).length = (n - i) * 6 := by rw [List.length_drop, hxl]; omega
  have hxg : ∀ j v, xs[j]? = some v → cur.toList[j]? = some v := fun j v hj => by
    rw [← htk] at hj
    have hj2 : j < n * 6 := by
      have := (List.getElem?_eq_some_iff.1 hj).1
      rw [List.length_take] at this; omega
    rwa [List.getElem?_take_of_lt hj2] at hj
  have hOV := fun lb cb => overlaps_no w g lb cb ((i + 1) * 6) hv hvl (by rw [Array.toArray_toList] at hat; exact hat) hne (by omega)
  have hdrew : At w.drew g 28 cur.toList.toArray := hat.keep ((Chg.refl [] w).drew) (by simp)
  have HCP1 := Lib.hid (fun ty dl dc sl sc (hm : Nat.min sl dl = n - i) => run_copyN (P := Try.prog) w.drew 22 22 ty 28 (i := i1) 6 g ((i + 1) * 6) dl dc ⟨g, i * 6, none⟩ sl sc (xs.drop (i * 6)) (n - i) Try.underlying22 hi1 hy1 hm hxd
    (fun j v hj => by
      rw [add_at, hdrew.cell, List.getElem?_toArray]
      rw [List.getElem?_drop] at hj
      exact hxg _ v hj)
    (fun j hj => by rw [hdrew.cell, List.getElem?_toArray, List.getElem?_eq_getElem (by rw [hcl]; omega)]; rfl) (fun j _ => hdrew.free _) (fun v hv => h1x v (List.mem_of_mem_drop hv)))
  have hA1 := At.setCells (xs.drop (i * 6)) ((i + 1) * 6) (by rw [hxd, hcl]; omega) hdrew
  have hc1 : Chg [g] w (w.drew.setCells g ((i + 1) * 6) (xs.drop (i * 6))) := Chg.setCells (g := g) _ _ ((Chg.refl [g] w).drew) (.inl (by simp))
  have hv1 := hv.keep hc1 (by simpa using hne)
  have hl1 : (cur.toList.take ((i + 1) * 6) ++ xs.drop (i * 6) ++ cur.toList.drop ((i + 1) * 6 + (xs.drop (i * 6)).length)).length = c * 6 := by
    simp only [List.length_append, List.length_take, List.length_drop, hxl, hcl]; omega
  have HCP2 := Lib.hid (fun ty dl dc (hm : Nat.min 1 dl = 1) => run_copyN (P := Try.prog) (w.drew.setCells g ((i + 1) * 6) (xs.drop (i * 6))) 22 22 ty 28 (i := i1) 6 g (i * 6) dl dc ⟨vb, 0, none⟩ 1 1 vs 1 Try.underlying22 hi1 hy1 hm (by rw [hvl])
    (fun j v hj => by rw [add_at, hv1.cell, List.getElem?_toArray, Nat.zero_add]; exact hj)
    (fun j hj => by rw [hA1.cell, List.getElem?_toArray, List.getElem?_eq_getElem (by rw [hl1]; omega)]; rfl) (fun j _ => hA1.free _) h1)
  have hA2 := At.setCells vs (i * 6) (by rw [hl1, hvl]; omega) hA1
  have hc2 : Chg [g] w ((w.drew.setCells g ((i + 1) * 6) (xs.drop (i * 6))).setCells g (i * 6) vs) := Chg.setCells (g := g) _ _ hc1 (.inl (by simp))
  have FIN : Hid (InsPost base (some ⟨g, 0, none⟩) n i xs vs w (.returned (.slice (some ⟨g, 0, none⟩) (n + 1) c)) ((w.drew.setCells g ((i + 1) * 6) (xs.drop (i * 6))).setCells g (i * 6) vs)) := by
    refine ⟨some ⟨g, 0, none⟩, c, rfl, ⟨?_, .inr ⟨g, c, _, rfl, hb, hA2, by omega, hcm, ?_, ?_⟩⟩, hc2.mono (by simp [blk]), fun j hj => .inl hj⟩
    · rw [List.length_append, List.length_append, List.length_take, List.length_drop, hvl, hxl]; omega
    · simp only [List.size_toArray]
      have h9 := hl1
      simp only [List.length_append, List.length_take, List.length_drop, hxl, hcl, hvl] at h9 ⊢; omega
    · rw [List.toList_toArray]
      exact ins_cells htk (by rw [hcl]; omega) hvl hi
  have hsL := fun w => run_slice_lo (P := Try.prog) w Try.underlying22 hi1 hy1 (some ⟨g, 0, none⟩) n c (i : Int) i rfl (by omega)
  have hsN := fun w => run_slice_hi (P := Try.prog) w Try.underlying22 hi1 (some ⟨g, 0, none⟩) n c ((n : Int) + 1) (n + 1) (by omega) (by omega)
  have hsM := fun w => run_slice_lo (P := Try.prog) w Try.underlying22 hi1 hy1 (some ⟨g, 0, none⟩) (n + 1) c ((i : Int) + 1) (i + 1) (by omega) (by omega)
  have hsI := fun w => run_slice_lo (P := Try.prog) w Try.underlying22 hi1 hy1 (some ⟨g, 0, none⟩) (n + 1) c (i : Int) i rfl (by omega)
  rw [cut6 g c i (by omega)] at hsL hsI
  rw [cut6 g c (i + 1) (by omega)] at hsM
  have hwn : IntKind.i64.wrap ((n : Int) + 1) = (n : Int) + 1 := IntWalk.i64_in _ (by omega)
  have hwi : IntKind.i64.wrap ((i : Int) + 1) = (i : Int) + 1 := IntWalk.i64_in _ (by omega)
  have hin : ((i : Int) == (n : Int)) = false := beq_eq_false_iff_ne.2 (by omega)
  have hin2 : ¬ (i : Int) = (n : Int) := by omega
  have hin3 : ¬ i = n := by omega
  have hcn : decide ((c : Int) < (n : Int) + 1) = false := decide_eq_false (by omega)
  have hcn2 : ¬ (c : Int) < (n : Int) + 1 := by omega
  clear hA2 hc2 hl1 hv1 hc1 hA1 hdrew hxg hxd hcl hat hh hcs htk hv hvl hxl
  go_enter Try.func35, Try.ntmps35
  go_upto_region 15 with (simp only [hOV])
  generalize hW0 : w = W0 at *
  refine wp_regionE 8 (fun w' => True) (by kernel_rfl) ?_ (fun hHeld => ?_)
  · trivial
  refine takeWE (i := 0) (d := (some 69)) (v := ?_) rfl rfl (by kernel_rfl) (by kernel_rfl) (by kernel_rfl) (by kernel_rfl) (by kernel_rfl) (fun _ _ _ h => h) (by rfl) ?_ (by assumption) ?_
  rotate_left
  · intro w' hSw; (try dsimp only at hSw); go_simp; try with_reducible rfl
  try simp only [Act.put, List.setIfInBounds_toArray, List.set_cons_zero, List.set_cons_succ]
  refine takeWE (i := 1) (d := (some 70)) (v := ?_) rfl rfl (by kernel_rfl) (by kernel_rfl) (by kernel_rfl) (by kernel_rfl) (by kernel_rfl) (fun _ _ _ h => h) (by rfl) ?_ (by assumption) ?_
  rotate_left
  · intro w' hSw; (try dsimp only at hSw); go_simp; try with_reducible rfl
  try simp only [Act.put, List.setIfInBounds_toArray, List.set_cons_zero, List.set_cons_succ]
  refine takeWE (i := 2) (d := (some 71)) (v := ?_) rfl rfl (by kernel_rfl) (by kernel_rfl) (by kernel_rfl) (by kernel_rfl) (by kernel_rfl) (fun _ _ _ h => h) (by rfl) ?_ (by assumption) ?_
  rotate_left
  · intro w' hSw; (try dsimp only at hSw); go_simp; try with_reducible rfl
  try simp only [Act.put, List.setIfInBounds_toArray, List.set_cons_zero, List.set_cons_succ]
  refine takeWE (i := 3) (d := (some 72)) (v := ?_) rfl rfl (by kernel_rfl) (by kernel_rfl) (by kernel_rfl) (by kernel_rfl) (by kernel_rfl) (fun _ _ _ h => h) (by rfl) ?_ (by assumption) ?_
  rotate_left
  · intro w' hSw; (try dsimp only at hSw); go_simp; try with_reducible rfl
  try simp only [Act.put, List.setIfInBounds_toArray, List.set_cons_zero, List.set_cons_succ]
  refine takeWE (i := 4) (d := (some 73)) (v := ?_) rfl rfl (by kernel_rfl) (by kernel_rfl) (by kernel_rfl) (by kernel_rfl) (by kernel_rfl) (fun _ _ _ h => h) (by rfl) ?_ (by assumption) ?_
  rotate_left
  · intro w' hSw; (try dsimp only at hSw); go_simp; try with_reducible rfl
  try simp only [Act.put, List.setIfInBounds_toArray, List.set_cons_zero, List.set_cons_succ]
  refine takeWE (i := 5) (d := (some 74)) (v := ?_) rfl rfl (by kernel_rfl) (by kernel_rfl) (by kernel_rfl) (by kernel_rfl) (by kernel_rfl) (fun _ _ _ h => h) (by rfl) ?_ (by assumption) ?_
  rotate_left
  · intro w' hSw; (try dsimp only at hSw); go_simp; try with_reducible rfl
  try simp only [Act.put, List.setIfInBounds_toArray, List.set_cons_zero, List.set_cons_succ]
  refine takeWE (i := 6) (d := (some 75)) (v := ?_) rfl rfl (by kernel_rfl) (by kernel_rfl) (by kernel_rfl) (by kernel_rfl) (by kernel_rfl) (fun _ _ _ h => h) (by rfl) ?_ (by assumption) ?_
  rotate_left
  · intro w' hSw; (try dsimp only at hSw); go_simp; try with_reducible rfl
  try simp only [Act.put, List.setIfInBounds_toArray, List.set_cons_zero, List.set_cons_succ]
  refine takeWE (i := 7) (d := (some 76)) (v := ?_) rfl rfl (by kernel_rfl) (by kernel_rfl) (by kernel_rfl) (by kernel_rfl) (by kernel_rfl) (fun _ _ _ h => h) (by rfl) ?_ (by assumption) ?_
  rotate_left
  · intro w' hSw; (try dsimp only at hSw); go_simp; try with_reducible rfl
  try simp only [Act.put, List.setIfInBounds_toArray, List.set_cons_zero, List.set_cons_succ]
  refine wpE_ready (rs := [8]) (by kernel_rfl) (by simp) ?_
  refine AllE.last rfl (by kernel_rfl) (fun K hK => ?_)
  refine wp_copyR _ _ _ 22 22 rfl _ _ (by simp [Act.eval, Act.put]) (by simp [Act.eval, Act.put]) (HCP1.out _ (n - i) (c - (i + 1)) (n + 1 - i) (c - i) (by simp only [Nat.min_def]; split <;> omega)) ?_
  refine hK.out _ _ ?_
  clear hK K hHeld
  go_wp2_with (fail)
  rw [HCP2.out _ (n + 1 - i) (c - i) (by simp only [Nat.min_def]; split <;> omega)]
  go_wp2_with (fail)
  go_ret
  exact FIN.out
set_option maxRecDepth 100000 in
set_option maxHeartbeats 6400000 in
theorem insert_grow (h : w.ownsRow base 28 6 (.slice (some ⟨g, 0, none⟩) n n) n xs) (hbase : base ≤ w.heap.size) (hn : n ≤ 1000000) (hi : i < n) (hv : At w vb 28 vs.toArray) (hvl : vs.length = 6) (h1 : ∀ v ∈ vs, v.oneCell' = true) (h1x : ∀ v ∈ xs, v.oneCell' = true) :
    Calls Try.prog 35 #[.slice (some ⟨g, 0, none⟩) n n, .int .i64 i, .slice (some ⟨vb, 0, none⟩) 1 1] w (InsPost base (some ⟨g, 0, none⟩) n i xs vs w) := by
  obtain ⟨i1, hi1, hy0, hy1, hy2⟩ := info_parts info_ver
  have hxl := h.1
  have hrd := Rd.of_own h
  obtain ⟨ad, had, hgl, hcell⟩ := hrd.at_ (by omega)
  obtain rfl : ad = ⟨g, 0, none⟩ := by injection had with had; exact had.symm
  have hxd : (xs.drop (i * 6)).length = (n - i) * 6 := by rw [List.length_drop, hxl]; omega
  have hxt : (xs.take (i * 6)).length = i * 6 := by rw [List.length_take, hxl]; omega
  have hik : i + (n + 1 - i) = n + 1 := by omega
  have hold : (Builtin.firstCells i1.size i (.slice (some ⟨g, 0, none⟩) i n)).run Try.prog w.drew = .ok (xs.take (i * 6)).toArray w.drew := by
    rw [hy1]
    refine run_firstCells_some (w := w.drew) 6 i ⟨g, 0, none⟩ i n _ hxt (fun j v hj => ?_)
    rw [List.getElem?_take] at hj
    split at hj
    · exact hcell j v hj
    · cases hj
  obtain ⟨G, hG⟩ : ∃ G, G = grownCap w (n + 1) n 28 := ⟨_, rfl⟩
  have hGn : n + 1 ≤ G := by rw [hG]; exact grownCap_ge w _ _ _
  have hGm : G ≤ maxLen := by rw [hG]; exact grownCap_le_maxLen w _ _ _ (by unfold maxLen; omega)
  obtain ⟨ROW, hROW⟩ : ∃ ROW : Array Value, ROW = (xs.take (i * 6)).toArray ++ Builtin.zeroCells (Value.agg #[.int .i64 0, .int .i64 0, .int .i64 0, .slice none 0 0, .bool false, .int .i64 0]).cells (n + 1 - i) ++ Builtin.zeroCells (Value.agg #[.int .i64 0, .int .i64 0, .int .i64 0, .slice none 0 0, .bool false, .int .i64 0]).cells (G - (n + 1)) := ⟨_, rfl⟩
  have hZs : (Value.agg #[.int .i64 0, .int .i64 0, .int .i64 0, .slice none 0 0, .bool false, .int .i64 0]).cells.size = 6 := by kernel_rfl
  have hRl : ROW.toList.length = G * 6 := by
    rw [hROW]
    simp [Builtin.zeroCells, hZs, hxl]
    omega
  have hRt : ROW.toList.take (i * 6) = xs.take (i * 6) := by
    rw [hROW, Array.toList_append, Array.toList_append, List.append_assoc, List.take_append_of_le_length (by simp [hxl]; omega)]
    exact List.take_of_length_le (by simp; omega)
  have HRZ : Hid (∀ ty, (Builtin.append_ #[22, 3] ty #[.slice (some ⟨g, 0, none⟩) i n, .int .i64 ((n : Int) + 1 - (i : Int))]).run Try.prog w = .ok (.slice (some ⟨w.heap.size, 0, none⟩) (n + 1) G) (w.drew.alloc (.cells ROW 28))) := fun ty => by
    have h9 := Lib.run_append_grow_zeros (P := Try.prog) w 22 3 ty 28 i1 _ .i64 .i64 Try.underlying22 Try.underlying3 hi1 hy0 (some ⟨g, 0, none⟩) i n (xs.take (i * 6)) hold (n + 1 - i) (by omega) (by omega) (by omega) (by omega) (by rw [hy2]; omega) (by rw [hy2, hik]; exact growslice_fits (by omega) (by omega))
    rw [hik, ← hG, ← hROW] at h9
    have e : (n : Int) + 1 - (i : Int) = ((n + 1 - i : Nat) : Int) := by omega
    rw [e]
    exact h9
  have hA1 : At (w.drew.alloc (.cells ROW 28)) w.heap.size 28 ROW.toList.toArray := by rw [Array.toArray_toList]; exact At.newG w.drew 28 ROW rfl
  have hq1 : Chg [] w (w.drew.alloc (.cells ROW 28)) := ((Chg.refl [] w).drew).alloc _
  have hv1 := hv.keep hq1 (by simp)
  have hvn : vb ≠ w.heap.size := Nat.ne_of_lt hv.lt
  have HR1 := Lib.hid (hrd.keep0 hq1)
  have hgn : g ≠ w.heap.size := Nat.ne_of_lt hgl
  have HX : Hid (xs.length = n * 6) := hxl
  clear h hold hrd hcell hgl had hik hZs hROW hG
  have hsz1 : w.heap.size < (w.drew.alloc (.cells ROW 28)).heap.size := hA1.lt
  generalize hgN : w.heap.size = gN at *
  obtain ⟨W1, hW1⟩ : ∃ W1, Hid (w.drew.alloc (.cells ROW 28) = W1) := ⟨_, rfl⟩
  rw [hW1.out] at HRZ hA1 hq1 hv1 HR1 hsz1
  have HCP1 := Lib.hid (fun ty dl dc (hm : Nat.min 1 dl = 1) => run_copyN (P := Try.prog) W1 22 22 ty 28 (i := i1) 6 gN (i * 6) dl dc ⟨vb, 0, none⟩ 1 1 vs 1 Try.underlying22 hi1 hy1 hm (by rw [hvl])
    (fun j v hj => by rw [add_at, hv1.cell, List.getElem?_toArray, Nat.zero_add]; exact hj)
    (fun j hj => by rw [hA1.cell, List.getElem?_toArray, List.getElem?_eq_getElem (by rw [hRl]; omega)]; rfl) (fun j _ => hA1.free _) h1)
  have hA2 := At.setCells vs (i * 6) (by rw [hRl, hvl]; omega) hA1
  have hq2 : Chg [] w (W1.setCells gN (i * 6) vs) := Chg.setCells (g := gN) _ _ hq1 (.inr (by omega))
  have hq12 : Chg [gN] W1 (W1.setCells gN (i * 6) vs) := Chg.setCells (g := gN) _ _ (Chg.refl _ _) (.inl (by simp))
  obtain ⟨W2, hW2⟩ : ∃ W2, Hid (W1.setCells gN (i * 6) vs = W2) := ⟨_, rfl⟩
  rw [hW2.out] at HCP1 hA2 hq2 hq12
  have hl2 : (ROW.toList.take (i * 6) ++ vs ++ ROW.toList.drop (i * 6 + vs.length)).length = G * 6 := by
    simp only [List.length_append, List.length_take, List.length_drop, hRl, hvl]; omega
  have hd2 := hA2.keep ((Chg.refl [] W2).drew) (by simp)
  have hsrc : ∀ j v, (xs.drop (i * 6))[j]? = some v → W2.drew.cell? ((⟨g, i * 6, none⟩ : Addr).add j) = some v := fun j v hj => by
    rw [List.getElem?_drop] at hj
    rw [add_at]
    obtain ⟨a2, ha2, hb2, hc2⟩ := HR1.out.at_ (by omega)
    obtain rfl : a2 = ⟨g, 0, none⟩ := by injection ha2 with ha2; exact ha2.symm
    have h9 := hc2 _ v hj
    rw [add_at, Nat.zero_add] at h9
    have h10 : Chg [gN] W1 W2.drew := hq12.drew
    exact (h10.cell (p := ⟨g, i * 6 + j, none⟩) hb2 (by simpa using hgn)).trans h9
  have HCP2 := Lib.hid (fun ty dl dc sl sc (hm : Nat.min sl dl = n - i) => run_copyN (P := Try.prog) W2.drew 22 22 ty 28 (i := i1) 6 gN ((i + 1) * 6) dl dc ⟨g, i * 6, none⟩ sl sc (xs.drop (i * 6)) (n - i) Try.underlying22 hi1 hy1 hm hxd hsrc
    (fun j hj => by rw [hd2.cell, List.getElem?_toArray, List.getElem?_eq_getElem (by rw [hl2]; omega)]; rfl) (fun j _ => hd2.free _) (fun v hv => h1x v (List.mem_of_mem_drop hv)))
  have hA3 := At.setCells (xs.drop (i * 6)) ((i + 1) * 6) (by rw [hxd, hl2]; omega) hd2
  have hq3 : Chg [] w (W2.drew.setCells gN ((i + 1) * 6) (xs.drop (i * 6))) := Chg.setCells (g := gN) _ _ (hq2.drew) (.inr (by omega))
  have FIN : Hid (InsPost base (some ⟨g, 0, none⟩) n i xs vs w (.returned (.slice (some ⟨gN, 0, none⟩) (n + 1) G)) (W2.drew.setCells gN ((i + 1) * 6) (xs.drop (i * 6)))) := by
    refine ⟨some ⟨gN, 0, none⟩, G, rfl, ⟨?_, .inr ⟨gN, G, _, rfl, by omega, hA3, by omega, hGm, ?_, ?_⟩⟩, hq3.mono (by simp), fun j hj => .inr (by simp [blk] at hj; omega)⟩
    · rw [List.length_append, List.length_append, List.length_take, List.length_drop, hvl, hxl]; omega
    · simp only [List.size_toArray]
      have h9 := hl2
      simp only [List.length_append, List.length_take, List.length_drop, hxl, hRl, hvl] at h9 ⊢; omega
    · rw [List.toList_toArray]
      exact take_ins hRt (by rw [hRl]; omega) hxl hvl hi
  have hsL := fun w => run_slice_lo (P := Try.prog) w Try.underlying22 hi1 hy1 (some ⟨g, 0, none⟩) n n (i : Int) i rfl (by omega)
  have hsT := fun w => run_slice_hi (P := Try.prog) w Try.underlying22 hi1 (some ⟨g, 0, none⟩) n n (i : Int) i rfl (by omega)
  have hsM := fun w => run_slice_lo (P := Try.prog) w Try.underlying22 hi1 hy1 (some ⟨gN, 0, none⟩) (n + 1) G ((i : Int) + 1) (i + 1) (by omega) (by omega)
  have hsI := fun w => run_slice_lo (P := Try.prog) w Try.underlying22 hi1 hy1 (some ⟨gN, 0, none⟩) (n + 1) G (i : Int) i rfl (by omega)
  rw [cut6 g n i (by omega)] at hsL
  rw [cut6 gN G i (by omega)] at hsI
  rw [cut6 gN G (i + 1) (by omega)] at hsM
  have hwn : IntKind.i64.wrap ((n : Int) + 1) = (n : Int) + 1 := IntWalk.i64_in _ (by omega)
  have hwi : IntKind.i64.wrap ((i : Int) + 1) = (i : Int) + 1 := IntWalk.i64_in _ (by omega)
  have hwk : IntKind.i64.wrap ((n : Int) + 1 - (i : Int)) = (n : Int) + 1 - (i : Int) := IntWalk.i64_in _ (by omega)
  have hin : ((i : Int) == (n : Int)) = false := beq_eq_false_iff_ne.2 (by omega)
  have hin2 : ¬ (i : Int) = (n : Int) := by omega
  have hin3 : ¬ i = n := by omega
  have hcn : decide ((n : Int) < (n : Int) + 1) = true := decide_eq_true (by omega)
  have hcn2 : (n : Int) < (n : Int) + 1 := by omega
  clear hA3 hq3 hl2 hd2 hsrc hq12 hA2 hq2 hv1 hq1 hA1 hxd hxt hRl hRt hv hvl hxl
  go_enter Try.func35, Try.ntmps35
  go_wp2_with (at_builtin; refine Lib.wpList_append_run _ rfl _ _ _ _ rfl _ _ rfl rfl _ _ (HRZ.out _) ?_)
  rw [HCP1.out _ (n + 1 - i) (G - i) (by simp only [Nat.min_def]; split <;> omega)]
  go_upto_region 11 with (fail)
  refine wp_regionE 8 (fun w' => True) (by kernel_rfl) ?_ (fun hHeld => ?_)
  · trivial
  refine takeWE (i := 0) (d := (some 46)) (v := ?_) rfl rfl (by kernel_rfl) (by kernel_rfl) (by kernel_rfl) (by kernel_rfl) (by kernel_rfl) (fun _ _ _ h => h) (by rfl) ?_ (by assumption) ?_
  rotate_left
  · intro w' hSw; (try dsimp only at hSw); go_simp; try with_reducible rfl
  try simp only [Act.put, List.setIfInBounds_toArray, List.set_cons_zero, List.set_cons_succ]
  refine takeWE (i := 1) (d := (some 47)) (v := ?_) rfl rfl (by kernel_rfl) (by kernel_rfl) (by kernel_rfl) (by kernel_rfl) (by kernel_rfl) (fun _ _ _ h => h) (by rfl) ?_ (by assumption) ?_
  rotate_left
  · intro w' hSw; (try dsimp only at hSw); go_simp; try with_reducible rfl
  try simp only [Act.put, List.setIfInBounds_toArray, List.set_cons_zero, List.set_cons_succ]
  refine takeWE (i := 2) (d := (some 48)) (v := ?_) rfl rfl (by kernel_rfl) (by kernel_rfl) (by kernel_rfl) (by kernel_rfl) (by kernel_rfl) (fun _ _ _ h => h) (by rfl) ?_ (by assumption) ?_
  rotate_left
  · intro w' hSw; (try dsimp only at hSw); go_simp; try with_reducible rfl
  try simp only [Act.put, List.setIfInBounds_toArray, List.set_cons_zero, List.set_cons_succ]
  refine takeWE (i := 3) (d := (some 49)) (v := ?_) rfl rfl (by kernel_rfl) (by kernel_rfl) (by kernel_rfl) (by kernel_rfl) (by kernel_rfl) (fun _ _ _ h => h) (by rfl) ?_ (by assumption) ?_
  rotate_left
  · intro w' hSw; (try dsimp only at hSw); go_simp; try with_reducible rfl
  try simp only [Act.put, List.setIfInBounds_toArray, List.set_cons_zero, List.set_cons_succ]
  refine takeWE (i := 4) (d := (some 50)) (v := ?_) rfl rfl (by kernel_rfl) (by kernel_rfl) (by kernel_rfl) (by kernel_rfl) (by kernel_rfl) (fun _ _ _ h => h) (by rfl) ?_ (by assumption) ?_
  rotate_left
  · intro w' hSw; (try dsimp only at hSw); go_simp; try with_reducible rfl
  try simp only [Act.put, List.setIfInBounds_toArray, List.set_cons_zero, List.set_cons_succ]
  refine takeWE (i := 5) (d := (some 51)) (v := ?_) rfl rfl (by kernel_rfl) (by kernel_rfl) (by kernel_rfl) (by kernel_rfl) (by kernel_rfl) (fun _ _ _ h => h) (by rfl) ?_ (by assumption) ?_
  rotate_left
  · intro w' hSw; (try dsimp only at hSw); go_simp; try with_reducible rfl
  try simp only [Act.put, List.setIfInBounds_toArray, List.set_cons_zero, List.set_cons_succ]
  refine takeWE (i := 6) (d := (some 52)) (v := ?_) rfl rfl (by kernel_rfl) (by kernel_rfl) (by kernel_rfl) (by kernel_rfl) (by kernel_rfl) (fun _ _ _ h => h) (by rfl) ?_ (by assumption) ?_
  rotate_left
  · intro w' hSw; (try dsimp only at hSw); go_simp; try with_reducible rfl
  try simp only [Act.put, List.setIfInBounds_toArray, List.set_cons_zero, List.set_cons_succ]
  refine takeWE (i := 7) (d := (some 53)) (v := ?_) rfl rfl (by kernel_rfl) (by kernel_rfl) (by kernel_rfl) (by kernel_rfl) (by kernel_rfl) (fun _ _ _ h => h) (by rfl) ?_ (by assumption) ?_
  rotate_left
  · intro w' hSw; (try dsimp only at hSw); go_simp; try with_reducible rfl
  try simp only [Act.put, List.setIfInBounds_toArray, List.set_cons_zero, List.set_cons_succ]
  refine wpE_ready (rs := [8]) (by kernel_rfl) (by simp) ?_
  refine AllE.last rfl (by kernel_rfl) (fun K hK => ?_)
  refine wp_copyR _ _ _ 22 22 rfl _ _ (by simp [Act.eval, Act.put]) (by simp [Act.eval, Act.put]) (HCP2.out _ (n - i) (G - (i + 1)) (n - i) (n - i) (by simp only [Nat.min_def]; split <;> omega)) ?_
  refine hK.out _ _ ?_
  clear hK K hHeld
  go_wp2_with (fail)
  go_ret
  exact FIN.out
theorem insert_any (h : w.ownsRow base 28 6 (.slice A n c) n xs) (hbase : base ≤ w.heap.size) (hn : n ≤ 1000000) (hi : i ≤ n) (hv : At w vb 28 vs.toArray) (hvl : vs.length = 6) (hne : vb ∉ blk A) (h1 : ∀ v ∈ vs, v.oneCell' = true) (h1x : ∀ v ∈ xs, v.oneCell' = true) :
    Calls Try.prog 35 #[.slice A n c, .int .i64 i, .slice (some ⟨vb, 0, none⟩) 1 1] w (InsPost base A n i xs vs w) := by
  by_cases he : i = n
  · subst he
    exact insert_end h hbase hn hv hvl h1
  · obtain ⟨g, rfl⟩ : ∃ g, A = some ⟨g, 0, none⟩ := by
      rcases h.2 with ⟨_, h4⟩ | ⟨g, cap, cur, h4, _⟩
      · omega
      · injection h4 with h4; exact ⟨g, h4⟩
    by_cases hr : n < c
    · exact insert_shift h hn (by omega) hr hv hvl (fun e => hne (by simp [blk, e])) h1 h1x
    · obtain rfl : c = n := Nat.le_antisymm (by omega) (own_cap h)
      exact insert_grow h hbase hn (by omega) hv hvl h1 h1x
end
end Go.Proofs.Ytmliclfepnebfaa
