
/-
  chain: Is, Seen, order, own (the code's and the reference's).
-/
import Derived.Test.YtmliclfepnebfaaChV
import Derived.Test.YtmliclfepnebfaaHeldE
import Derived.Test.YtmliclfepnebfaaKeep
import Derived.Test.YtmliclfepnebfaaHlcR
import Derived.Deep.DeepCutAuto
namespace Go.Proofs.Ytmliclfepnebfaa
open Go.RowKit
set_option linter.unusedVariables false
set_option linter.unusedSimpArgs false
theorem info_ver : (Try.prog.info? 28).map (fun i => (i.zero, i.size, i.bytes)) = some (some (.agg #[.int .i64 0, .int .i64 0, .int .i64 0, .slice none 0 0, .bool false, .int .i64 0]), 6, 64) := by kernel_rfl
theorem info_u8c : (Try.prog.info? 5).map (fun i => (i.zero, i.size, i.bytes)) = some (some (.int .u8 0), 1, 1) := by kernel_rfl
theorem own_ne1 {w : World} {b b' : Nat} {e e' : TypeId} {s s' n n' : Nat} {v v' : Value} {xs ys : List Value} (h : w.ownsRow b e s v n xs) (h' : w.ownsRow b' e' s' v' n' ys) (hne : e ≠ e') : ∀ k, v.ownBlock = some k → v'.ownBlock ≠ some k := by
  intro k hk hk'
  rcases h'.2 with ⟨rfl, _⟩ | ⟨g, cap, cur, rfl, _, hh, _⟩
  · simp [Value.ownBlock] at hk'
  · simp [Value.ownBlock] at hk'
    subst hk'
    exact own_at_ne h (g := g) (t := e') (cs := cur) hh hne g hk rfl
set_option maxRecDepth 100000 in
set_option maxHeartbeats 3200000 in
theorem chIs_any (w : World) (m c vo : Int) (A : Option Addr) (val : List UInt8) (cp : Nat) (gone : Bool) (ttl : Int) :
    Calls Try.prog 18 #[.agg #[.int .i64 m, .int .i64 c, .int .i64 vo, .slice A val.length cp, .bool gone, .int .i64 ttl]] w fun e w' =>
      e = .returned (.bool (isV m c vo val gone ttl)) ∧ Chg [] w w' := by
  have hb := At.new w 28 #[.int .i64 m, .int .i64 c, .int .i64 vo, .slice A val.length cp, .bool gone, .int .i64 ttl]
  have hch0 : Chg [] w (w.alloc (.cells #[.int .i64 m, .int .i64 c, .int .i64 vo, .slice A val.length cp, .bool gone, .int .i64 ttl] 28)) := (Chg.refl _ _).alloc _
  have x0 := hb.cell 0
  have x1 := hb.cell 1
  simp only [List.getElem?_toArray, List.getElem?_cons_zero, List.getElem?_cons_succ] at x0 x1
  cases hs : isS m c with
  | false =>
    have HS := Lib.hid hs
    have HP := Lib.hid (fun w => pack_no w m c hs)
    clear hs
    go_enter Try.func18, Try.ntmps18
    go_wp2_with (fail)
    refine (HP.out _).mono ?_
    rintro e w1 ⟨rfl, hch1⟩
    go_wp2_with (fail)
    go_ret
    exact ⟨ret_bool (by simp [isV, HS.out]), hch0.trans hch1 (by simp)⟩
  | true =>
    have HS := Lib.hid hs
    have HP := Lib.hid (fun w => pack_yes w m c hs)
    clear hs
    go_enter Try.func18, Try.ntmps18
    go_wp2_with (fail)
    refine (HP.out _).mono ?_
    rintro e w1 ⟨rfl, hch1⟩
    have h1 := hb.keep hch1 (by simp)
    have c2 := h1.cell 2
    have c3 := h1.cell 3
    have c4 := h1.cell 4
    have c5 := h1.cell 5
    simp only [List.getElem?_toArray, List.getElem?_cons_zero, List.getElem?_cons_succ] at c2 c3 c4 c5
    clear HP x0 x1
    go_wp2_with (fail)
    all_goals
      go_ret
      refine ⟨ret_bool ?_, hch0.trans hch1 (by simp)⟩
      unfold isV
      rw [HS.out, len_le, len_z]
      first
        | (simp [*]; done)
        | (simp [*]; omega)
        | (by_cases ht : ttl = 0 <;> simp [*] <;> omega)
        | (have hz : ¬ ((val.length : Int) ≤ (1024 : Nat)) := by omega
           rw [decide_eq_false hz]; simp; done)
        | (have hz : ¬ ((val.length : Int) = 0) := by omega
           rw [decide_eq_false hz]; simp; done)
        | (symm; rw [Bool.eq_false_iff]; intro hT; simp [*] at hT; omega)
        | (have hz : ¬ ((val.length : Int) = 0) := by omega
           rw [decide_eq_false hz]; simp [*]; done)
        | trace_state
set_option maxHeartbeats 1600000 in
theorem chSeen_any (w : World) (m c o : Int) (A : Option Addr) (n p : Nat) (g : Bool) (t sm sc : Int) (h0 : 0 ≤ m) (h1 : m ≤ 281474976710655) (hs : sm ≤ 9223372036854775807) (d : List UInt8) :
    Calls Try.prog 32 #[.agg #[.int .i64 m, .int .i64 c, .int .i64 o, .slice A n p, .bool g, .int .i64 t], .agg #[.int .i64 sm, .int .i64 sc]] w fun e w' => e = .returned (.bool (seenV ⟨m, c, o, d, g, t⟩ ⟨sm, sc⟩)) ∧ Chg [] w w' := by
  have q := ((Chg.refl [] w).alloc (.cells #[.int .i64 m, .int .i64 c, .int .i64 o, .slice A n p, .bool g, .int .i64 t] 28)).alloc (.cells #[.int .i64 sm, .int .i64 sc] 25)
  have z0 := (At.new w 28 #[.int .i64 m, .int .i64 c, .int .i64 o, .slice A n p, .bool g, .int .i64 t]).al (.cells #[.int .i64 sm, .int .i64 sc] 25)
  have z1 := At.newG (w.alloc (.cells #[.int .i64 m, .int .i64 c, .int .i64 o, .slice A n p, .bool g, .int .i64 t] 28)) 25 #[.int .i64 sm, .int .i64 sc] (g := w.heap.size + 1) (by simp)
  have Z0 := Lib.hid z0
  have Z1 := Lib.hid z1
  have Q := Lib.hid q
  have x0 := z0.cell 0
  have x1 := z0.cell 1
  have y0 := z1.cell 0
  have y1 := z1.cell 1
  simp only [List.getElem?_toArray, List.getElem?_cons_zero, List.getElem?_cons_succ] at x0 x1 y0 y1
  obtain ⟨k, HK⟩ : ∃ k, Hid (cmpS ⟨m, c⟩ ⟨sm, sc⟩ = k) := ⟨_, rfl⟩
  have HC := Lib.hid (fun w => compare_any m c sm sc w)
  rw [HK.out] at HC
  have hle : k ≤ 0 → m ≤ sm := fun h => by
    have h2 := @cmpS_gt ⟨m, c⟩ ⟨sm, sc⟩
    rw [HK.out] at h2
    have h3 : ¬ 0 < k := by omega
    rw [h2] at h3
    simp only at h3
    omega
  have hsub : k ≤ 0 → IntKind.i64.wrap (sm - m) = sm - m := fun h => IntWalk.i64_in _ (by have := hle h; omega)
  clear z0 z1 q
  unfold seenV VV.st
  simp only
  rw [HK.out]
  clear HK
  by_cases hk : k ≤ 0
  · have hk1 : decide (k ≤ 0) = true := decide_eq_true hk
    have hk2 : decide (0 < k) = false := decide_eq_false (by omega)
    have hk3 : ¬ 0 < k := by omega
    have hsw := hsub hk
    rw [hk1]
    clear hle hsub
    go_enter Try.func32, Try.ntmps32
    go_wp2_with (fail)
    refine (HC.out _).mono ?_
    rintro e w1 ⟨rfl, hc⟩
    have x0 := (Z0.out.keep hc (by simp)).cell 0
    have x4 := (Z0.out.keep hc (by simp)).cell 4
    have x5 := (Z0.out.keep hc (by simp)).cell 5
    have y0 := (Z1.out.keep hc (by simp)).cell 0
    simp only [List.getElem?_toArray, List.getElem?_cons_zero, List.getElem?_cons_succ] at x0 x4 x5 y0
    have HF : Hid (Chg [] w w1) := Q.out.trans hc (by simp)
    clear Z0 Z1 Q HC hc
    cases g
    · by_cases ht : t = 0
      · subst ht
        go_wp2_with (fail)
        go_ret
        exact ⟨by simp, HF.out⟩
      · have ht2 : (t == 0) = false := beq_eq_false_iff_ne.2 ht
        go_wp2_with (fail)
        all_goals
          go_ret
          exact ⟨by simp [*], HF.out⟩
    · go_wp2_with (fail)
      go_ret
      exact ⟨by simp, HF.out⟩
  · have hk1 : decide (k ≤ 0) = false := decide_eq_false hk
    have hk2 : decide (0 < k) = true := decide_eq_true (by omega)
    rw [hk1]
    clear hle hsub
    go_enter Try.func32, Try.ntmps32
    go_wp2_with (fail)
    refine (HC.out _).mono ?_
    rintro e w1 ⟨rfl, hc⟩
    have HF : Hid (Chg [] w w1) := Q.out.trans hc (by simp)
    clear Z0 Z1 Q HC hc
    go_wp2_with (fail)
    go_ret
    exact ⟨by simp, HF.out⟩
set_option maxHeartbeats 1600000 in
theorem refSeen_any (w : World) (m c o : Int) (A : Option Addr) (n p : Nat) (g : Bool) (t sm sc : Int) (h0 : 0 ≤ m) (h1 : m ≤ 281474976710655) (hs : sm ≤ 9223372036854775807) (d : List UInt8) :
    Calls Try.prog 43 #[.agg #[.int .i64 m, .int .i64 c, .int .i64 o, .slice A n p, .bool g, .int .i64 t], .agg #[.int .i64 sm, .int .i64 sc]] w fun e w' => e = .returned (.bool (seenV ⟨m, c, o, d, g, t⟩ ⟨sm, sc⟩)) ∧ Chg [] w w' := by
  have q := ((Chg.refl [] w).alloc (.cells #[.int .i64 m, .int .i64 c, .int .i64 o, .slice A n p, .bool g, .int .i64 t] 28)).alloc (.cells #[.int .i64 sm, .int .i64 sc] 25)
  have z0 := (At.new w 28 #[.int .i64 m, .int .i64 c, .int .i64 o, .slice A n p, .bool g, .int .i64 t]).al (.cells #[.int .i64 sm, .int .i64 sc] 25)
  have z1 := At.newG (w.alloc (.cells #[.int .i64 m, .int .i64 c, .int .i64 o, .slice A n p, .bool g, .int .i64 t] 28)) 25 #[.int .i64 sm, .int .i64 sc] (g := w.heap.size + 1) (by simp)
  have Z0 := Lib.hid z0
  have Z1 := Lib.hid z1
  have Q := Lib.hid q
  have x0 := z0.cell 0
  have x1 := z0.cell 1
  have y0 := z1.cell 0
  have y1 := z1.cell 1
  simp only [List.getElem?_toArray, List.getElem?_cons_zero, List.getElem?_cons_succ] at x0 x1 y0 y1
  obtain ⟨k, HK⟩ : ∃ k, Hid (cmpS ⟨m, c⟩ ⟨sm, sc⟩ = k) := ⟨_, rfl⟩
  have HC := Lib.hid (fun w => refCompare_any m c sm sc w)
  rw [HK.out] at HC
  have hle : k ≤ 0 → m ≤ sm := fun h => by
    have h2 := @cmpS_gt ⟨m, c⟩ ⟨sm, sc⟩
    rw [HK.out] at h2
    have h3 : ¬ 0 < k := by omega
    rw [h2] at h3
    simp only at h3
    omega
  have hsub : k ≤ 0 → IntKind.i64.wrap (sm - m) = sm - m := fun h => IntWalk.i64_in _ (by have := hle h; omega)
  clear z0 z1 q
  unfold seenV VV.st
  simp only
  rw [HK.out]
  clear HK
  by_cases hk : k ≤ 0
  · have hk1 : decide (k ≤ 0) = true := decide_eq_true hk
    have hk2 : decide (0 < k) = false := decide_eq_false (by omega)
    have hk3 : ¬ 0 < k := by omega
    have hsw := hsub hk
    rw [hk1]
    clear hle hsub
    go_enter Try.func43, Try.ntmps43
    go_wp2_with (fail)
    refine (HC.out _).mono ?_
    rintro e w1 ⟨rfl, hc⟩
    have x0 := (Z0.out.keep hc (by simp)).cell 0
    have x4 := (Z0.out.keep hc (by simp)).cell 4
    have x5 := (Z0.out.keep hc (by simp)).cell 5
    have y0 := (Z1.out.keep hc (by simp)).cell 0
    simp only [List.getElem?_toArray, List.getElem?_cons_zero, List.getElem?_cons_succ] at x0 x4 x5 y0
    have HF : Hid (Chg [] w w1) := Q.out.trans hc (by simp)
    clear Z0 Z1 Q HC hc
    cases g
    · by_cases ht : t = 0
      · subst ht
        go_wp2_with (fail)
        go_ret
        exact ⟨by simp, HF.out⟩
      · have ht2 : (t == 0) = false := beq_eq_false_iff_ne.2 ht
        go_wp2_with (fail)
        all_goals
          go_ret
          exact ⟨by simp [*], HF.out⟩
    · go_wp2_with (fail)
      go_ret
      exact ⟨by simp, HF.out⟩
  · have hk1 : decide (k ≤ 0) = false := decide_eq_false hk
    have hk2 : decide (0 < k) = true := decide_eq_true (by omega)
    rw [hk1]
    clear hle hsub
    go_enter Try.func43, Try.ntmps43
    go_wp2_with (fail)
    refine (HC.out _).mono ?_
    rintro e w1 ⟨rfl, hc⟩
    have HF : Hid (Chg [] w w1) := Q.out.trans hc (by simp)
    clear Z0 Z1 Q HC hc
    go_wp2_with (fail)
    go_ret
    exact ⟨by simp, HF.out⟩
set_option maxRecDepth 100000 in
set_option maxHeartbeats 3200000 in
theorem order_any (w : World) (m c o : Int) (A : Option Addr) (n p : Nat) (g : Bool) (t m' c' o' : Int) (A' : Option Addr) (n' p' : Nat) (g' : Bool) (t' : Int) (d d' : List UInt8) :
    Calls Try.prog 34 #[.agg #[.int .i64 m, .int .i64 c, .int .i64 o, .slice A n p, .bool g, .int .i64 t], .agg #[.int .i64 m', .int .i64 c', .int .i64 o', .slice A' n' p', .bool g', .int .i64 t']] w fun e w' => e = .returned (.int .i64 (cmpV ⟨m, c, o, d, g, t⟩ ⟨m', c', o', d', g', t'⟩)) ∧ Chg [] w w' := by
  have q := ((Chg.refl [] w).alloc (.cells #[.int .i64 m, .int .i64 c, .int .i64 o, .slice A n p, .bool g, .int .i64 t] 28)).alloc (.cells #[.int .i64 m', .int .i64 c', .int .i64 o', .slice A' n' p', .bool g', .int .i64 t'] 28)
  have HZ0 := Lib.hid ((At.new w 28 #[.int .i64 m, .int .i64 c, .int .i64 o, .slice A n p, .bool g, .int .i64 t]).al (.cells #[.int .i64 m', .int .i64 c', .int .i64 o', .slice A' n' p', .bool g', .int .i64 t'] 28))
  have HZ1 := Lib.hid (At.newG (w.alloc (.cells #[.int .i64 m, .int .i64 c, .int .i64 o, .slice A n p, .bool g, .int .i64 t] 28)) 28 #[.int .i64 m', .int .i64 c', .int .i64 o', .slice A' n' p', .bool g', .int .i64 t'] (g := w.heap.size + 1) (by simp))
  have HCW := Lib.hid q
  clear q
  unfold cmpV VV.st
  simp only
  go_enter Try.func34, Try.ntmps34
  go_upto_region 1 with (fail)
  generalize (w.alloc (.cells #[.int .i64 m, .int .i64 c, .int .i64 o, .slice A n p, .bool g, .int .i64 t] 28)).alloc (.cells #[.int .i64 m', .int .i64 c', .int .i64 o', .slice A' n' p', .bool g', .int .i64 t'] 28) = wz at *
  generalize w.heap.size = g0 at *
  have KK : Hid (∀ w', Chg [] wz w' → w'.cell? ⟨g0, 0, none⟩ = some (.int .i64 m) ∧ w'.cell? ⟨g0, 1, none⟩ = some (.int .i64 c) ∧ w'.cell? ⟨g0, 2, none⟩ = some (.int .i64 o) ∧ w'.cell? ⟨g0 + 1, 0, none⟩ = some (.int .i64 m') ∧ w'.cell? ⟨g0 + 1, 1, none⟩ = some (.int .i64 c') ∧ w'.cell? ⟨g0 + 1, 2, none⟩ = some (.int .i64 o')) := fun w' hc => ⟨(HZ0.out.keep hc (by simp)).cell 0, (HZ0.out.keep hc (by simp)).cell 1, (HZ0.out.keep hc (by simp)).cell 2, (HZ1.out.keep hc (by simp)).cell 0, (HZ1.out.keep hc (by simp)).cell 1, (HZ1.out.keep hc (by simp)).cell 2⟩
  refine wp_regionE 12 (fun w' => w'.cell? ⟨g0, 0, none⟩ = some (.int .i64 m) ∧ w'.cell? ⟨g0, 1, none⟩ = some (.int .i64 c) ∧ w'.cell? ⟨g0, 2, none⟩ = some (.int .i64 o) ∧ w'.cell? ⟨g0 + 1, 0, none⟩ = some (.int .i64 m') ∧ w'.cell? ⟨g0 + 1, 1, none⟩ = some (.int .i64 c') ∧ w'.cell? ⟨g0 + 1, 2, none⟩ = some (.int .i64 o')) (by kernel_rfl) ?_ (fun hHeld => ?_)
  · exact KK.out _ ((Chg.refl [] wz).drew)
  have HC0 : Hid (Chg [] wz wz.drew) := (Chg.refl [] wz).drew
  generalize wz.drew = v0 at *
  refine takeWE (i := 0) (d := (some 5)) (v := ?_) rfl rfl (by kernel_rfl) (by kernel_rfl) (by kernel_rfl) (by kernel_rfl) (by kernel_rfl) (fun _ _ _ h => h) (by rfl) ?_ (by assumption) ?_
  rotate_left
  · intro w' hSw; (try dsimp only at hSw); go_simp; try with_reducible rfl
  try simp only [Act.put, List.setIfInBounds_toArray, List.set_cons_zero, List.set_cons_succ]
  refine takeWE (i := 1) (d := (some 6)) (v := ?_) rfl rfl (by kernel_rfl) (by kernel_rfl) (by kernel_rfl) (by kernel_rfl) (by kernel_rfl) (fun _ _ _ h => h) (by rfl) ?_ (by assumption) ?_
  rotate_left
  · intro w' hSw; (try dsimp only at hSw); go_simp; try with_reducible rfl
  try simp only [Act.put, List.setIfInBounds_toArray, List.set_cons_zero, List.set_cons_succ]
  refine takeWE (i := 2) (d := (some 7)) (v := ?_) rfl rfl (by kernel_rfl) (by kernel_rfl) (by kernel_rfl) (by kernel_rfl) (by kernel_rfl) (fun _ _ _ h => h) (by rfl) ?_ (by assumption) ?_
  rotate_left
  · intro w' hSw; (try dsimp only at hSw); go_simp; try with_reducible rfl
  try simp only [Act.put, List.setIfInBounds_toArray, List.set_cons_zero, List.set_cons_succ]
  refine takeWE (i := 3) (d := (some 8)) (v := ?_) rfl rfl (by kernel_rfl) (by kernel_rfl) (by kernel_rfl) (by kernel_rfl) (by kernel_rfl) (fun _ _ _ h => h) (by rfl) ?_ (by assumption) ?_
  rotate_left
  · intro w' hSw; (try dsimp only at hSw); go_simp; try with_reducible rfl
  try simp only [Act.put, List.setIfInBounds_toArray, List.set_cons_zero, List.set_cons_succ]
  refine takeWE (i := 5) (d := (some 10)) (v := ?_) rfl rfl (by kernel_rfl) (by kernel_rfl) (by kernel_rfl) (by kernel_rfl) (by kernel_rfl) (fun _ _ _ h => h) (by rfl) ?_ (by assumption) ?_
  rotate_left
  · intro w' hSw; (try dsimp only at hSw); go_simp; try with_reducible rfl
  try simp only [Act.put, List.setIfInBounds_toArray, List.set_cons_zero, List.set_cons_succ]
  refine takeWE (i := 6) (d := (some 11)) (v := ?_) rfl rfl (by kernel_rfl) (by kernel_rfl) (by kernel_rfl) (by kernel_rfl) (by kernel_rfl) (fun _ _ _ h => h) (by rfl) ?_ (by assumption) ?_
  rotate_left
  · intro w' hSw; (try dsimp only at hSw); go_simp; try with_reducible rfl
  try simp only [Act.put, List.setIfInBounds_toArray, List.set_cons_zero, List.set_cons_succ]
  refine takeWE (i := 7) (d := (some 12)) (v := ?_) rfl rfl (by kernel_rfl) (by kernel_rfl) (by kernel_rfl) (by kernel_rfl) (by kernel_rfl) (fun _ _ _ h => h) (by rfl) ?_ (by assumption) ?_
  rotate_left
  · intro w' hSw; (try dsimp only at hSw); go_simp; try with_reducible rfl
  try simp only [Act.put, List.setIfInBounds_toArray, List.set_cons_zero, List.set_cons_succ]
  refine takeWE (i := 8) (d := (some 13)) (v := ?_) rfl rfl (by kernel_rfl) (by kernel_rfl) (by kernel_rfl) (by kernel_rfl) (by kernel_rfl) (fun _ _ _ h => h) (by rfl) ?_ (by assumption) ?_
  rotate_left
  · intro w' hSw; (try dsimp only at hSw); go_simp; try with_reducible rfl
  try simp only [Act.put, List.setIfInBounds_toArray, List.set_cons_zero, List.set_cons_succ]
  refine wpE_ready (rs := [4]) (by kernel_rfl) (by simp) ?_
  refine AllE.cons rfl (fun K hK => ?_) (AllE.nil)
  go_simp
  go_at_call 45
  (with_reducible refine (compare_any m c m' c' _).mono ?_)
  rintro e v1 ⟨rfl, hcc⟩
  have HC1 := Lib.hid (HC0.out.trans hcc (by simp))
  clear hcc
  go_wp2_with (fail)
  refine hK.out _ _ ?_ (fun hHeld => ?_)
  · exact KK.out _ HC1.out
  clear hK K
  try simp only [Act.put, List.setIfInBounds_toArray, List.set_cons_zero, List.set_cons_succ]
  refine wpE_ready (rs := [9]) (by kernel_rfl) (by simp) ?_
  refine AllE.cons rfl (fun K hK => ?_) (AllE.nil)
  go_simp
  go_at_call 47
  (with_reducible refine (cmpI_any o o' _).mono ?_)
  rintro e v2 ⟨rfl, hcc⟩
  have HC2 : Hid (Chg [] wz v2) := by unfold Hid; rw [← hcc]; exact HC1.out
  clear hcc
  go_wp2_with (fail)
  refine hK.out _ _ ?_ (fun hHeld => ?_)
  · exact KK.out _ HC2.out
  clear hK K
  try simp only [Act.put, List.setIfInBounds_toArray, List.set_cons_zero, List.set_cons_succ]
  refine wpE_ready (rs := [10]) (by kernel_rfl) (by simp) ?_
  refine AllE.cons rfl (fun K hK => ?_) (AllE.nil)
  go_simp
  go_wp2_with (fail)
  have HC3 := Lib.hid (HC2.out.alloc (.cells #[.int .i64 (cmpS ⟨m, c⟩ ⟨m', c'⟩), .int .i64 (cmpI o o')] 3))
  have HR3 := Lib.hid (At.new v2 3 #[.int .i64 (cmpS ⟨m, c⟩ ⟨m', c'⟩), .int .i64 (cmpI o o')])
  generalize v2.alloc (.cells #[.int .i64 (cmpS ⟨m, c⟩ ⟨m', c'⟩), .int .i64 (cmpI o o')] 3) = v3 at *
  generalize v2.heap.size = gr at *
  refine hK.out _ _ ?_ (fun hHeld => ?_)
  · exact KK.out _ HC3.out
  clear hK K
  try simp only [Act.put, List.setIfInBounds_toArray, List.set_cons_zero, List.set_cons_succ]
  refine wpE_ready (rs := [11]) (by kernel_rfl) (by simp) ?_
  refine AllE.cons rfl (fun K hK => ?_) (AllE.nil)
  go_simp
  go_at_call 46
  (with_reducible refine (or_any _ _ gr _ (HR3.out.cell 0) (HR3.out.cell 1)).mono ?_)
  rintro e v4 ⟨rfl, hcc⟩
  have HC4 : Hid (Chg [] wz v4) := by unfold Hid; rw [← hcc]; exact HC3.out
  clear hcc
  go_wp2_with (fail)
  refine hK.out _ _ ?_ (fun hHeld => ?_)
  · exact KK.out _ HC4.out
  clear hK K
  try simp only [Act.put, List.setIfInBounds_toArray, List.set_cons_zero, List.set_cons_succ]
  refine wpE_ready (rs := [12]) (by kernel_rfl) (by simp) ?_
  refine AllE.last rfl (by kernel_rfl) (fun K hK => ?_)
  go_simp
  go_wp2_with (fail)
  refine hK.out _ _ ?_
  clear hK K hHeld
  go_wp2_with (fail)
  go_ret
  exact ⟨rfl, HCW.out.trans HC4.out (by simp)⟩
end Go.Proofs.Ytmliclfepnebfaa
