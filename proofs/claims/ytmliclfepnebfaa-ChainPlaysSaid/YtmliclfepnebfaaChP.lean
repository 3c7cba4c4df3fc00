
/-
  chain: Trim.
-/
import Derived.Test.YtmliclfepnebfaaChO
namespace Go.Proofs.Ytmliclfepnebfaa
open Go.RowKit
set_option linter.unusedVariables false
set_option linter.unusedSimpArgs false
def trimN (l : List VV) (s : St) : Nat := if getB l s then uptoV l s - 1 else uptoV l s
def TrimPost (T : TypeId) (gn : Nat) (ms : List VrV) (n : Nat) (w : World) (e : Ending) (w' : World) : Prop :=
  e = .returned (.int .i64 n) ∧ ((n = 0 ∧ Chg [] w w') ∨ ∃ A' c', ChP T gn A' c' (ms.drop n) w' ∧ Chg [gn] w w' ∧ ∀ j ∈ blk A', w.heap.size ≤ j)
theorem cutA_some {A : Option Addr} {c k : Nat} (h : A ≠ none) : ∃ ad, cutA A c k 6 = some ad := by
  cases A with
  | none => exact absurd rfl h
  | some a => unfold cutA; split <;> exact ⟨_, rfl⟩
theorem trim_done {T : TypeId} {w w6 : World} {gn : Nat} {A A' : Option Addr} {c c' b n : Nat} {ms : List VrV} (H : ChP T gn A c ms w) (hT : T ≠ 28) (hT2 : T ≠ 5) (h6 : Chg [] w w6)
    (ho : w6.ownsRow b 28 6 (.slice A' (ms.length - n) c') (ms.length - n) ((cVr ms).drop (n * 6))) (hb : w.heap.size ≤ b) :
    ChP T gn A' c' (ms.drop n) (w6.setCell ⟨gn, 0, none⟩ (.slice A' (ms.length - n) c')) ∧ Chg [gn] w (w6.setCell ⟨gn, 0, none⟩ (.slice A' (ms.length - n) c')) ∧ ∀ j ∈ blk A', w.heap.size ≤ j := by
  have q8 : Chg [gn] w6 (w6.setCell ⟨gn, 0, none⟩ (.slice A' (ms.length - n) c')) := (Chg.refl _ _).setCell (.inl (by simp)) _
  have hA : ∀ j ∈ blk A', w.heap.size ≤ j := fun j hj => by have := (own_in ho j hj).1; omega
  have hg := H.at_.lt
  have ha := H.at_.keep h6 (by simp)
  refine ⟨⟨⟨?_, fun m hm => ?_⟩, ?_⟩, (h6.mono (fun _ h => by cases h)).trans q8 (fun _ h => .inl h), hA⟩
  · rw [List.length_drop, ← cVr_drop]
    refine own_base (own_keep ho q8 (fun j hj hm => ?_)) (fun _ _ => Nat.zero_le _)
    simp at hm
    subst hm
    have := (ho.lt _ hj).1
    omega
  · have d6 := own_keep (H.dat m (List.mem_of_mem_drop hm)) h6 (fun _ _ hm => by simp at hm)
    refine own_keep d6 q8 (fun j hj hm => ?_)
    simp at hm
    subst hm
    exact own_at_ne d6 ha hT2.symm _ hj rfl
  · rw [List.length_drop]
    have h := ha.set_ 0 (.slice A' (ms.length - n) c')
    simpa using h
set_option maxRecDepth 100000 in
set_option maxHeartbeats 6400000 in
theorem trimC_raw (w : World) (gn : Nat) (A : Option Addr) (c : Nat) (ms : List VrV) (H : ChP 65 gn A c ms w) (hn : ms.length ≤ 1000000) (hV : Valid (ms.map VrV.v)) (sm sc : Int) (hs : sm ≤ 9223372036854775807) :
    Calls Try.prog 26 #[.pointer (some ⟨gn, 0, none⟩), .agg #[.int .i64 sm, .int .i64 sc]] w (TrimPost 65 gn ms (trimN (ms.map VrV.v) ⟨sm, sc⟩) w) := by
  have HX := Lib.hid (At.new w 25 #[.int .i64 sm, .int .i64 sc])
  have HQ := Lib.hid ((Chg.refl [] w).alloc (.cells #[.int .i64 sm, .int .i64 sc] 25))
  have HH := Lib.hid (H.keep HQ.out)
  have HUP := Lib.hid (uptoC_raw _ gn A c ms HH.out hn sm sc)
  have HT : Hid (trimN (ms.map VrV.v) ⟨sm, sc⟩ = if (decide (0 < uptoV (ms.map VrV.v) ⟨sm, sc⟩) && seenV (if uptoV (ms.map VrV.v) ⟨sm, sc⟩ = 0 then zeroV else (ms.map VrV.v).getD (uptoV (ms.map VrV.v) ⟨sm, sc⟩ - 1) zeroV) ⟨sm, sc⟩) then uptoV (ms.map VrV.v) ⟨sm, sc⟩ - 1 else uptoV (ms.map VrV.v) ⟨sm, sc⟩) := rfl
  have hle := uptoV_le (ms.map VrV.v) ⟨sm, sc⟩
  rw [List.length_map] at hle
  generalize uptoV (ms.map VrV.v) ⟨sm, sc⟩ = n at *
  generalize trimN (ms.map VrV.v) ⟨sm, sc⟩ = r at *
  have x0 := HX.out.cell 0
  have x1 := HX.out.cell 1
  go_enter Try.func26, Try.ntmps26
  go_wp2_with (fail)
  generalize hwz : w.alloc (.cells #[.int .i64 sm, .int .i64 sc] 25) = wz at *
  generalize hgs : w.heap.size = gs at *
  refine HUP.out.mono ?_
  rintro e w1 ⟨rfl, hc1⟩
  clear HUP x0 x1
  have HX1 := Lib.hid (HX.out.keep hc1 (by simp))
  have HH1 := Lib.hid (HH.out.keep hc1)
  have HC1 := Lib.hid (HQ.out.trans hc1 (by simp))
  clear HX HH HQ hc1 hwz
  by_cases h0 : n = 0
  · subst h0
    obtain rfl : r = 0 := HT.out
    have hgt : ¬ (0 : Int) < 0 := by omega
    go_upto_region 2 with (fail)
    have KK : Hid (∀ w', Chg [] w1 w' → True) := fun _ _ => trivial
    refine wp_region_held_drew (S := fun w' => True) (by kernel_rfl) ?_ (fun hHeld => ?_)
    · exact KK.out _ ((Chg.refl [] w1).drewN 1)
    refine takeW (i := 0) (d := (some 9)) (v := ?_) rfl rfl (by kernel_rfl) (by kernel_rfl) (by kernel_rfl) (fun _ _ _ h => h) (by rfl) ?_ (by assumption) ?_
    rotate_left
    · intro w' hSw; (try dsimp only at hSw); go_simp; try with_reducible rfl
    try simp only [Act.put, List.setIfInBounds_toArray, List.set_cons_zero, List.set_cons_succ]
    refine takeW (i := 1) (d := (some 10)) (v := ?_) rfl rfl (by kernel_rfl) (by kernel_rfl) (by kernel_rfl) (fun _ _ _ h => h) (by rfl) ?_ (by assumption) ?_
    rotate_left
    · intro w' hSw; (try dsimp only at hSw); go_simp; try with_reducible rfl
    try simp only [Act.put, List.setIfInBounds_toArray, List.set_cons_zero, List.set_cons_succ]
    refine takeW (i := 2) (d := (some 11)) (v := ?_) rfl rfl (by kernel_rfl) (by kernel_rfl) (by kernel_rfl) (fun _ _ _ h => h) (by rfl) ?_ (by assumption) ?_
    rotate_left
    · intro w' hSw; (try dsimp only at hSw); go_simp; try with_reducible rfl
    try simp only [Act.put, List.setIfInBounds_toArray, List.set_cons_zero, List.set_cons_succ]
    refine takeU (i := 3) (d := (some 12)) rfl rfl (by kernel_rfl) (by kernel_rfl) (by kernel_rfl) (fun _ _ _ h => h) (by rfl) (by assumption) ?_
    try simp only [Act.put, List.setIfInBounds_toArray, List.set_cons_zero, List.set_cons_succ]
    refine takeU (i := 4) (d := (some 13)) rfl rfl (by kernel_rfl) (by kernel_rfl) (by kernel_rfl) (fun _ _ _ h => h) (by rfl) (by assumption) ?_
    try simp only [Act.put, List.setIfInBounds_toArray, List.set_cons_zero, List.set_cons_succ]
    refine takeU (i := 5) (d := (some 14)) rfl rfl (by kernel_rfl) (by kernel_rfl) (by kernel_rfl) (fun _ _ _ h => h) (by rfl) (by assumption) ?_
    try simp only [Act.put, List.setIfInBounds_toArray, List.set_cons_zero, List.set_cons_succ]
    refine takeU (i := 6) (d := (some 15)) rfl rfl (by kernel_rfl) (by kernel_rfl) (by kernel_rfl) (fun _ _ _ h => h) (by rfl) (by assumption) ?_
    try simp only [Act.put, List.setIfInBounds_toArray, List.set_cons_zero, List.set_cons_succ]
    refine takeU (i := 7) (d := (some 16)) rfl rfl (by kernel_rfl) (by kernel_rfl) (by kernel_rfl) (fun _ _ _ h => h) (by rfl) (by assumption) ?_
    try simp only [Act.put, List.setIfInBounds_toArray, List.set_cons_zero, List.set_cons_succ]
    refine takeU (i := 8) (d := (some 17)) rfl rfl (by kernel_rfl) (by kernel_rfl) (by kernel_rfl) (fun _ _ _ h => h) (by rfl) (by assumption) ?_
    try simp only [Act.put, List.setIfInBounds_toArray, List.set_cons_zero, List.set_cons_succ]
    refine takeU (i := 9) (d := (some 18)) rfl rfl (by kernel_rfl) (by kernel_rfl) (by kernel_rfl) (fun _ _ _ h => h) (by rfl) (by assumption) ?_
    try simp only [Act.put, List.setIfInBounds_toArray, List.set_cons_zero, List.set_cons_succ]
    refine takeU (i := 10) (d := (some 19)) rfl rfl (by kernel_rfl) (by kernel_rfl) (by kernel_rfl) (fun _ _ _ h => h) (by rfl) (by assumption) ?_
    try simp only [Act.put, List.setIfInBounds_toArray, List.set_cons_zero, List.set_cons_succ]
    refine takeU (i := 11) (d := (some 20)) rfl rfl (by kernel_rfl) (by kernel_rfl) (by kernel_rfl) (fun _ _ _ h => h) (by rfl) (by assumption) ?_
    try simp only [Act.put, List.setIfInBounds_toArray, List.set_cons_zero, List.set_cons_succ]
    refine takeU (i := 12) (d := (some 21)) rfl rfl (by kernel_rfl) (by kernel_rfl) (by kernel_rfl) (fun _ _ _ h => h) (by rfl) (by assumption) ?_
    try simp only [Act.put, List.setIfInBounds_toArray, List.set_cons_zero, List.set_cons_succ]
    refine takeW (i := 13) (d := (some 22)) (v := ?_) rfl rfl (by kernel_rfl) (by kernel_rfl) (by kernel_rfl) (fun _ _ _ h => h) (by rfl) ?_ (by assumption) ?_
    rotate_left
    · intro w' hSw; (try dsimp only at hSw); go_simp; try with_reducible rfl
    try simp only [Act.put, List.setIfInBounds_toArray, List.set_cons_zero, List.set_cons_succ]
    refine wpAnyH_done (by kernel_rfl) ?_ _
    go_wp2_with (fail)
    go_ret
    exact ⟨rfl, .inl ⟨rfl, HC1.out.trans ((Chg.refl [] w1).drewN 1) (by simp)⟩⟩
  obtain ⟨k, rfl⟩ : ∃ k, n = k + 1 := ⟨n - 1, by omega⟩
  have hk : k < ms.length := by omega
  have hkk : (((k + 1 : Nat) : Int)) = (k : Int) + 1 := rfl
  rw [hkk]
  have hgt : (0 : Int) < (k : Int) + 1 := by omega
  have hk0 : (0 : Int) ≤ (k : Int) := by omega
  have hk1 : (k : Int) < (ms.length : Int) := by omega
  have HR := Lib.hid (Rd.of_own HH1.out.row)
  have hM := Lib.hid ((hV.at_ (List.getElem_mem hk)).m0)
  obtain ⟨s, HS⟩ : ∃ s, Hid (seenV (ms[k]).v ⟨sm, sc⟩ = s) := ⟨_, Lib.hid rfl⟩
  have HT2 : Hid (r = if s then k else k + 1) := by
    have h := HT.out
    rw [if_neg h0, Nat.add_sub_cancel, List.getD_eq_getElem?_getD, List.getElem?_eq_getElem (by rw [List.length_map]; exact hk), List.getElem_map, Option.getD_some, HS.out, decide_eq_true (by omega : 0 < k + 1), Bool.true_and] at h
    exact h
  obtain ⟨ad, hAd, had, hc0, hc⟩ := HR.out.getV hk
  have hc1 := hc 1 _ (by omega) rfl
  have hc2 := hc 2 _ (by omega) rfl
  have hc3 := hc 3 _ (by omega) rfl
  have hc4 := hc 4 _ (by omega) rfl
  have hc5 := hc 5 _ (by omega) rfl
  have hcap : ms.length ≤ c := by
    rcases HH1.out.row.2 with ⟨h4, _⟩ | ⟨g, cap, cur, h4, h5, h6, h7, h8⟩
    · injection h4 with h4; rw [h4] at hAd; cases hAd
    · injection h4 with _ _ h4; rw [h4]; exact h7
  subst hAd
  generalize ms[k] = y at *
  clear hc HT
  obtain ⟨m, q, o, A', d, p, g, t⟩ := y
  simp only [VrV.v] at hc0 hc1 hc2 hc3 hc4 hc5 HS hM
  have HSE := HS
  have hwk : IntKind.i64.wrap (k : Int) = (k : Int) := IntWalk.i64_in _ (by omega)
  have KK : Hid (∀ w', Chg [] w1 w' → w'.cell? ⟨gn, 0, none⟩ = some (.slice (some ad) ms.length c) ∧ w'.cell? (ad.add (k * 6)) = some (.int .i64 m) ∧ w'.cell? ⟨(ad.add (k * 6)).block, (ad.add (k * 6)).off + 1, none⟩ = some (.int .i64 q) ∧ w'.cell? ⟨(ad.add (k * 6)).block, (ad.add (k * 6)).off + 2, none⟩ = some (.int .i64 o) ∧ w'.cell? ⟨(ad.add (k * 6)).block, (ad.add (k * 6)).off + 3, none⟩ = some (.slice A' d.length p) ∧ w'.cell? ⟨(ad.add (k * 6)).block, (ad.add (k * 6)).off + 4, none⟩ = some (.bool g) ∧ w'.cell? ⟨(ad.add (k * 6)).block, (ad.add (k * 6)).off + 5, none⟩ = some (.int .i64 t) ∧ w'.cell? ⟨gs, 0, none⟩ = some (.int .i64 sm) ∧ w'.cell? ⟨gs, 1, none⟩ = some (.int .i64 sc)) := fun w' hc => ⟨(HH1.out.at_.keep hc (by simp)).cell 0, (hc.cell (by rw [add_block]; exact had) (by simp)).trans hc0, (hc.cell (p := ⟨(ad.add (k * 6)).block, (ad.add (k * 6)).off + 1, none⟩) (by show (ad.add (k * 6)).block < _; rw [add_block]; exact had) (by simp)).trans hc1, (hc.cell (p := ⟨(ad.add (k * 6)).block, (ad.add (k * 6)).off + 2, none⟩) (by show (ad.add (k * 6)).block < _; rw [add_block]; exact had) (by simp)).trans hc2, (hc.cell (p := ⟨(ad.add (k * 6)).block, (ad.add (k * 6)).off + 3, none⟩) (by show (ad.add (k * 6)).block < _; rw [add_block]; exact had) (by simp)).trans hc3, (hc.cell (p := ⟨(ad.add (k * 6)).block, (ad.add (k * 6)).off + 4, none⟩) (by show (ad.add (k * 6)).block < _; rw [add_block]; exact had) (by simp)).trans hc4, (hc.cell (p := ⟨(ad.add (k * 6)).block, (ad.add (k * 6)).off + 5, none⟩) (by show (ad.add (k * 6)).block < _; rw [add_block]; exact had) (by simp)).trans hc5, (HX1.out.keep hc (by simp)).cell 0, (HX1.out.keep hc (by simp)).cell 1⟩
  clear hc0 hc1 hc2 hc3 hc4 hc5
  go_upto_region 2 with (fail)
  refine wp_region_held_drew (S := fun w' => w'.cell? ⟨gn, 0, none⟩ = some (.slice (some ad) ms.length c) ∧ w'.cell? (ad.add (k * 6)) = some (.int .i64 m) ∧ w'.cell? ⟨(ad.add (k * 6)).block, (ad.add (k * 6)).off + 1, none⟩ = some (.int .i64 q) ∧ w'.cell? ⟨(ad.add (k * 6)).block, (ad.add (k * 6)).off + 2, none⟩ = some (.int .i64 o) ∧ w'.cell? ⟨(ad.add (k * 6)).block, (ad.add (k * 6)).off + 3, none⟩ = some (.slice A' d.length p) ∧ w'.cell? ⟨(ad.add (k * 6)).block, (ad.add (k * 6)).off + 4, none⟩ = some (.bool g) ∧ w'.cell? ⟨(ad.add (k * 6)).block, (ad.add (k * 6)).off + 5, none⟩ = some (.int .i64 t) ∧ w'.cell? ⟨gs, 0, none⟩ = some (.int .i64 sm) ∧ w'.cell? ⟨gs, 1, none⟩ = some (.int .i64 sc)) (by kernel_rfl) ?_ (fun hHeld => ?_)
  · exact KK.out _ ((Chg.refl [] w1).drewN 1)
  refine takeW (i := 0) (d := (some 9)) (v := ?_) rfl rfl (by kernel_rfl) (by kernel_rfl) (by kernel_rfl) (fun _ _ _ h => h) (by rfl) ?_ (by assumption) ?_
  rotate_left
  · intro w' hSw; (try dsimp only at hSw); go_simp; try with_reducible rfl
  try simp only [Act.put, List.setIfInBounds_toArray, List.set_cons_zero, List.set_cons_succ]
  refine takeW (i := 1) (d := (some 10)) (v := ?_) rfl rfl (by kernel_rfl) (by kernel_rfl) (by kernel_rfl) (fun _ _ _ h => h) (by rfl) ?_ (by assumption) ?_
  rotate_left
  · intro w' hSw; (try dsimp only at hSw); go_simp; try with_reducible rfl
  try simp only [Act.put, List.setIfInBounds_toArray, List.set_cons_zero, List.set_cons_succ]
  refine takeW (i := 2) (d := (some 11)) (v := ?_) rfl rfl (by kernel_rfl) (by kernel_rfl) (by kernel_rfl) (fun _ _ _ h => h) (by rfl) ?_ (by assumption) ?_
  rotate_left
  · intro w' hSw; (try dsimp only at hSw); go_simp; try with_reducible rfl
  try simp only [Act.put, List.setIfInBounds_toArray, List.set_cons_zero, List.set_cons_succ]
  refine takeW (i := 3) (d := (some 12)) (v := ?_) rfl rfl (by kernel_rfl) (by kernel_rfl) (by kernel_rfl) (fun _ _ _ h => h) (by rfl) ?_ (by assumption) ?_
  rotate_left
  · intro w' hSw; (try dsimp only at hSw); go_simp; try with_reducible rfl
  try simp only [Act.put, List.setIfInBounds_toArray, List.set_cons_zero, List.set_cons_succ]
  refine takeW (i := 4) (d := (some 13)) (v := ?_) rfl rfl (by kernel_rfl) (by kernel_rfl) (by kernel_rfl) (fun _ _ _ h => h) (by rfl) ?_ (by assumption) ?_
  rotate_left
  · intro w' hSw; (try dsimp only at hSw); go_simp; try with_reducible rfl
  try simp only [Act.put, List.setIfInBounds_toArray, List.set_cons_zero, List.set_cons_succ]
  refine takeW (i := 5) (d := (some 14)) (v := ?_) rfl rfl (by kernel_rfl) (by kernel_rfl) (by kernel_rfl) (fun _ _ _ h => h) (by rfl) ?_ (by assumption) ?_
  rotate_left
  · intro w' hSw; (try dsimp only at hSw); go_simp; try with_reducible rfl
  try simp only [Act.put, List.setIfInBounds_toArray, List.set_cons_zero, List.set_cons_succ]
  refine takeW (i := 6) (d := (some 15)) (v := ?_) rfl rfl (by kernel_rfl) (by kernel_rfl) (by kernel_rfl) (fun _ _ _ h => h) (by rfl) ?_ (by assumption) ?_
  rotate_left
  · intro w' hSw; (try dsimp only at hSw); go_simp; try with_reducible rfl
  try simp only [Act.put, List.setIfInBounds_toArray, List.set_cons_zero, List.set_cons_succ]
  refine takeW (i := 7) (d := (some 16)) (v := ?_) rfl rfl (by kernel_rfl) (by kernel_rfl) (by kernel_rfl) (fun _ _ _ h => h) (by rfl) ?_ (by assumption) ?_
  rotate_left
  · intro w' hSw; (try dsimp only at hSw); go_simp; try with_reducible rfl
  try simp only [Act.put, List.setIfInBounds_toArray, List.set_cons_zero, List.set_cons_succ]
  refine takeW (i := 8) (d := (some 17)) (v := ?_) rfl rfl (by kernel_rfl) (by kernel_rfl) (by kernel_rfl) (fun _ _ _ h => h) (by rfl) ?_ (by assumption) ?_
  rotate_left
  · intro w' hSw; (try dsimp only at hSw); go_simp; try with_reducible rfl
  try simp only [Act.put, List.setIfInBounds_toArray, List.set_cons_zero, List.set_cons_succ]
  refine takeW (i := 9) (d := (some 18)) (v := ?_) rfl rfl (by kernel_rfl) (by kernel_rfl) (by kernel_rfl) (fun _ _ _ h => h) (by rfl) ?_ (by assumption) ?_
  rotate_left
  · intro w' hSw; (try dsimp only at hSw); go_simp; try with_reducible rfl
  try simp only [Act.put, List.setIfInBounds_toArray, List.set_cons_zero, List.set_cons_succ]
  refine takeW (i := 10) (d := (some 19)) (v := ?_) rfl rfl (by kernel_rfl) (by kernel_rfl) (by kernel_rfl) (fun _ _ _ h => h) (by rfl) ?_ (by assumption) ?_
  rotate_left
  · intro w' hSw; (try dsimp only at hSw); go_simp; try with_reducible rfl
  try simp only [Act.put, List.setIfInBounds_toArray, List.set_cons_zero, List.set_cons_succ]
  refine takeW (i := 11) (d := (some 20)) (v := ?_) rfl rfl (by kernel_rfl) (by kernel_rfl) (by kernel_rfl) (fun _ _ _ h => h) (by rfl) ?_ (by assumption) ?_
  rotate_left
  · intro w' hSw; (try dsimp only at hSw); go_simp; try with_reducible rfl
  try simp only [Act.put, List.setIfInBounds_toArray, List.set_cons_zero, List.set_cons_succ]
  refine wpAnyH_ready (rs := [12]) (by kernel_rfl) (by simp) ?_
  refine AllReadyH.cons rfl (fun K hK => ?_) AllReadyH.nil
  go_simp
  go_at_call 32
  (with_reducible refine (chSeen_any _ m q o A' d.length p g t sm sc hM.out.1 hM.out.2 hs d).mono ?_)
  rintro e w3 ⟨rfl, hch3⟩
  rw [HSE.out]
  have hch23 : Hid (Chg [] w1 w3) := ((by repeat' (first | (with_reducible assumption) | (with_reducible exact Chg.refl _ _) | (with_reducible refine Chg.alloc ?_ _) | (with_reducible refine Chg.drewN ?_ _) | (with_reducible refine Chg.drew ?_) | (with_reducible refine Chg.strW ?_ _ _) | (with_reducible refine Chg.t0 ?_ (by with_reducible assumption)))) : Chg [] w1 w3)
  go_wp2_with (fail)
  refine hK.out _ _ ?_ (fun hHeld => ?_)
  · first | exact KK.out _ hch23.out | (dsimp only; exact KK.out _ hch23.out)
  clear hK K
  try simp only [Act.put, List.setIfInBounds_toArray, List.set_cons_zero, List.set_cons_succ]
  refine takeW (i := 13) (d := (some 22)) (v := ?_) rfl rfl (by kernel_rfl) (by kernel_rfl) (by kernel_rfl) (fun _ _ _ h => h) (by rfl) ?_ (by assumption) ?_
  rotate_left
  · intro w' hSw; (try dsimp only at hSw); go_simp; try with_reducible rfl
  try simp only [Act.put, List.setIfInBounds_toArray, List.set_cons_zero, List.set_cons_succ]
  refine wpAnyH_done (by kernel_rfl) ?_ _
  obtain ⟨i1, hi1, hz0, hz1, hz2⟩ := info_parts info_ver
  have hz0' : i1.size = 6 := by first | exact hz0 | exact hz1 | exact hz2
  cases s
  · obtain rfl : r = k + 1 := HT2.out
    obtain ⟨ad2, hcut⟩ := cutA_some (A := some ad) (c := c) (k := k + 1) (by simp)
    have hsl : ∀ w : World, (Instr.slice 22 (.slice (some ad) ms.length c) (some (.int .i64 ((k : Int) + 1))) none none).run Try.prog w = .ok (.slice (some ad2) (ms.length - (k + 1)) (c - (k + 1))) w := fun w => by
      rw [run_slice_lo w Try.underlying22 hi1 hz0' (some ad) ms.length c ((k : Int) + 1) (k + 1) rfl (by omega), hcut]
    have HR3 := Lib.hid ((HR.out.keep0 hch23.out).cutR (k := k + 1) (cap := c) (by omega) hcap)
    rw [hcut] at HR3
    have a0 := (HH1.out.at_.keep hch23.out (by simp)).cell 0
    have HC3 := Lib.hid (HC1.out.trans hch23.out (by simp))
    have HCL := Lib.hid (cloneV_any w3 ad2 (ms.length - (k + 1)) (c - (k + 1)) _ HR3.out (by omega) (fun v hv => cVr_one ms v (List.mem_of_mem_drop hv)))
    have hA3 := Lib.hid (HH1.out.at_.keep hch23.out (by simp))
    clear HR3 KK
    go_wp2_with (fail)
    refine HCL.out.mono ?_
    rintro e w6 ⟨A6, c6, rfl, hown6, hch6⟩
    have HD := Lib.hid (trim_done (n := k + 1) H ch_ne.1 ch_ne.2 (HC3.out.trans hch6 (by simp)) hown6 HC3.out.size)
    have g6 := (hA3.out.keep hch6 (by simp)).cell 0
    have f6 := (hA3.out.keep hch6 (by simp)).free 0
    clear hown6 hch6 HCL a0 hA3 hHeld
    go_wp2_with (fail)
    go_ret
    exact ⟨rfl, .inr ⟨_, _, HD.out⟩⟩
  · obtain rfl : r = k := HT2.out
    by_cases hk2 : r = 0
    · subst hk2
      have hgt2 : ¬ (0 : Int) < 0 := by omega
      go_wp2_with (fail)
      go_ret
      exact ⟨rfl, .inl ⟨rfl, HC1.out.trans hch23.out (by simp)⟩⟩
    · have hgt2 : (0 : Int) < (r : Int) := by omega
      obtain ⟨ad2, hcut⟩ := cutA_some (A := some ad) (c := c) (k := r) (by simp)
      have hsl : ∀ w : World, (Instr.slice 22 (.slice (some ad) ms.length c) (some (.int .i64 ((r : Int)))) none none).run Try.prog w = .ok (.slice (some ad2) (ms.length - (r)) (c - (r))) w := fun w => by
        rw [run_slice_lo w Try.underlying22 hi1 hz0' (some ad) ms.length c ((r : Int)) (r) rfl (by omega), hcut]
      have HR3 := Lib.hid ((HR.out.keep0 hch23.out).cutR (k := r) (cap := c) (by omega) hcap)
      rw [hcut] at HR3
      have a0 := (HH1.out.at_.keep hch23.out (by simp)).cell 0
      have HC3 := Lib.hid (HC1.out.trans hch23.out (by simp))
      have HCL := Lib.hid (cloneV_any w3 ad2 (ms.length - (r)) (c - (r)) _ HR3.out (by omega) (fun v hv => cVr_one ms v (List.mem_of_mem_drop hv)))
      have hA3 := Lib.hid (HH1.out.at_.keep hch23.out (by simp))
      clear HR3 KK
      go_wp2_with (fail)
      refine HCL.out.mono ?_
      rintro e w6 ⟨A6, c6, rfl, hown6, hch6⟩
      have HD := Lib.hid (trim_done (n := r) H ch_ne.1 ch_ne.2 (HC3.out.trans hch6 (by simp)) hown6 HC3.out.size)
      have g6 := (hA3.out.keep hch6 (by simp)).cell 0
      have f6 := (hA3.out.keep hch6 (by simp)).free 0
      clear hown6 hch6 HCL a0 hA3 hHeld
      go_wp2_with (fail)
      go_ret
      exact ⟨rfl, .inr ⟨_, _, HD.out⟩⟩
end Go.Proofs.Ytmliclfepnebfaa
