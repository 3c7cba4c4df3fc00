/-
  OctetJoins: rows joined in two parts, and these joined, are all of them joined.
-/
import Derived.Test.YtghabhhnhalpgaaSums
import Derived.ArgAppend
namespace Go.Proofs.Ytghabhhnhalpgaa
open Go.RowKit
set_option linter.unusedVariables false

set_option maxHeartbeats 1600000 in
theorem spoil_full (w : World) (A : Option Addr) (n : Nat) (xs : List Value) (hr : Rd w 1 A n xs) (hn : n ≤ 1099511627776) :
    Calls Try.prog 17 #[.slice A n n] w fun e w' => e = .returned (.tuple #[]) ∧ Chg [] w w' := by
  obtain ⟨i0, hi, hz0, hz1, hz2⟩ := info_parts info8
  go_enter Try.func17, Try.ntmps17
  have hn0 : A = none → n = 0 ∧ n = 0 := by
    rintro rfl
    rcases Nat.eq_zero_or_pos n with h0 | h0
    · exact ⟨h0, h0⟩
    · obtain ⟨ad, h1, _⟩ := hr.at_ h0
      cases h1
  have hho : ∀ b, A = some b → ∀ j u, xs[j]? = some u → (w.alloc (.cells #[.int .u8 99] 5)).cell? (b.add j) = some u := by
    intro b hb j u hu
    have hr' := hr.alloc (.cells #[.int .u8 99] 5)
    rcases Nat.eq_zero_or_pos n with h0 | h0
    · have : xs = [] := List.eq_nil_of_length_eq_zero (by rw [hr.len, h0, Nat.zero_mul])
      rw [this] at hu; simp at hu
    · obtain ⟨ad, h1, _, h2⟩ := hr'.at_ h0
      rw [hb] at h1
      injection h1 with h1
      subst h1
      exact h2 j u hu
  have hxl : xs.length = n * 1 := hr.len
  go_wp2_with (at_builtin; refine wpList_append_grows _ rfl (.tmp 4) (.tmp 5) 23 (by rfl) 5 i0 _ 1 1 Try.underlying23 hi hz0 hz1 hz2 rfl (by omega) A n n xs (by rfl) hn0 hxl hho ⟨w.heap.size, 0, none⟩ 1 1 [.int .u8 99] (by rfl) rfl (cell_one_new _ _ _) (by simp [Value.oneCell']) (by omega) (by unfold maxLen; omega) (by omega) ?_; intro v3 w3 hown3 hg3)
  obtain ⟨A3, c3, rfl⟩ := own_form hown3
  have hown3 : w3.ownsRow w.heap.size 5 1 (.slice A3 (n + 1) c3) (n + 1) (xs ++ [.int .u8 99]) := own_base hown3 (fun k hk => by have := (hown3.lt k hk).1; simp at this; omega)
  have hch : Chg [] w w3 := ((Chg.refl _ w).alloc _).grown hg3 (by simp)
  have HA3 : Hid (∀ k, k ∈ blk A3 → w.heap.size ≤ k) := fun k hk => (own_in hown3 k hk).1
  clear hg3 hn0 hho hxl
  have hn1 : n + 1 ≤ 1099511627777 := by omega
  obtain ⟨g, rfl, hg0, hg1, _, _⟩ := own_cells hown3 (by omega)
  go_loopw [3] (fun i wr => ∃ (k : Nat) (ys : List Value), k ≤ n + 1 ∧ i = .int .i64 k ∧ wr.ownsRow w.heap.size 5 1 (.slice (some ⟨g, 0, none⟩) (n + 1) c3) (n + 1) ys ∧ Chg [] w wr) (fun i _ => n + 1 - (intOf i).toNat)
  case atStart => exact ⟨0, _, by omega, rfl, hown3, hch⟩
  case round =>
    obtain ⟨k, ys, hk, rfl, hown4, hch4⟩ := hrel
    by_cases hlt : k < n + 1
    · obtain ⟨g', hg', _, _, hcell, hfree⟩ := own_cells hown4 (by omega)
      have hgg : g' = g := by injection hg' with h1; injection h1 with h1; exact h1.symm
      subst hgg
      have hyl := hown4.1
      have hce := hcell k _ (List.getElem?_eq_getElem (by omega))
      have hfr := hfree k
      have hlt' : (k : Int) < (n : Int) + 1 := by omega
      clear hcell hfree hg'
      generalize ys[k] = y0 at *
      go_wp2_with (fail)
      go_roundw
      case rel =>
        refine ⟨k + 1, ys.set k (.int .u8 98), by omega, by go_num, own_set hown4 k _, hch4.setCell ?_ _⟩
        exact .inr (HA3.out g' (by simp [blk]))
      case measure => simp [intOf]; omega
    · have hge : ¬ ((k : Int) < (n : Int) + 1) := by omega
      go_wp2_with (fail)
      go_end0
      exact ⟨rfl, hch4⟩

theorem info_row : (Try.prog.info? 23).map (fun i => (i.zero, i.size, i.bytes)) = some (some (.slice none 0 0), 1, 24) := by kernel_rfl
/-- What Join told is written over: nothing older than the world ahead of that Join has changed. -/
theorem spoil_joined (w wj : World) (A : Option Addr) (c : Nat) (L : List UInt8) (hr : Rd w 1 A L.length (cB L)) (hc : c = L.length ∨ w.ownsRow wj.heap.size 5 1 (.slice A L.length c) L.length (cB L)) (hL : L.length ≤ 1099511627776) (hs : wj.heap.size ≤ w.heap.size) :
    Calls Try.prog 17 #[.slice A L.length c] w fun e w' => e = .returned (.tuple #[]) ∧ ∃ S : List Nat, (∀ k, k ∈ S → wj.heap.size ≤ k) ∧ Chg S w w' := by
  rcases hc with rfl | hown
  · exact (spoil_full w A L.length (cB L) hr hL).mono fun e w' ⟨h1, h2⟩ => ⟨h1, [], by simp, h2⟩
  · exact (spoil_any w wj.heap.size A L.length c (cB L) hown hL hs).mono fun e w' ⟨h1, h2⟩ => ⟨h1, blk A, fun k hk => (own_in hown k hk).1, h2⟩

set_option maxRecDepth 100000 in
set_option maxHeartbeats 6400000 in
theorem joins_law (w : World) (A : Option Addr) (c : Nat) (ls : List SlB) (hr : Rd w 1 A ls.length (cR ls)) (hlc : ls.length ≤ c) (hcm : c ≤ maxLen) (hrs : ∀ r ∈ ls, RdB w r ∧ r.bs.length ≤ r.c ∧ r.c ≤ maxLen)
    (B : Option Addr) (d : Nat) (ms : List SlB) (hr2 : Rd w 1 B ms.length (cR ms)) (hmd : ms.length ≤ d) (hdm : d ≤ maxLen) (hms : ∀ r ∈ ms, RdB w r ∧ r.bs.length ≤ r.c ∧ r.c ≤ maxLen) :
    Calls Try.prog 6 #[.slice A ls.length c, .slice B ms.length d] w fun e w' => e = .returned (.bool true) ∧ Chg [] w w' := by
  obtain ⟨i0, hi, hz0, hz1, hz2⟩ := info_parts info_row
  have HRS := Lib.hid hrs
  have HMS := Lib.hid hms
  unfold maxLen at hcm hdm
  have hh := heavyRows_any w A ls.length c ls rfl hr (by omega) (fun r hr => by have := hrs r hr; unfold maxLen at this; omega)
  have HH := Lib.hid hh
  have hh2 := heavyRows_any w B ms.length d ms rfl hr2 (by omega) (fun r hr => by have := hms r hr; unfold maxLen at this; omega)
  have HH2 := Lib.hid hh2
  obtain ⟨La, HLa⟩ : ∃ L, Hid ((ls.map SlB.bs).flatten = L) := ⟨_, rfl⟩
  obtain ⟨Lb, HLb⟩ : ∃ L, Hid ((ms.map SlB.bs).flatten = L) := ⟨_, rfl⟩
  have HLenA : Hid (La.length = (ls.map fun r => r.bs.length).sum) := by unfold Hid; rw [← HLa.out, List.length_flatten, List.map_map]; rfl
  have HLenB : Hid (Lb.length = (ms.map fun r => r.bs.length).sum) := by unfold Hid; rw [← HLb.out, List.length_flatten, List.map_map]; rfl
  obtain ⟨L, HL⟩ : ∃ L, Hid (La ++ Lb = L) := ⟨_, rfl⟩
  have HLall : Hid (((ls ++ ms).map SlB.bs).flatten = L) := by unfold Hid; rw [List.map_append, List.flatten_append, HLa.out, HLb.out, HL.out]
  have HLL : Hid (L.length = La.length + Lb.length) := by unfold Hid; rw [← HL.out, List.length_append]
  clear hrs hms hh hh2
  go_enter Try.func6, Try.ntmps6
  go_wp2_with (fail)
  refine HH.out.mono ?_
  rintro e w' ⟨hv1, rfl, hno1, rfl⟩
  cases hv1
  · have hsm1 := hno1 rfl
    rw [← HLenA.out] at hsm1
    go_wp2_with (fail)
    refine HH2.out.mono ?_
    rintro e w' ⟨hv2, rfl, hno2, rfl⟩
    cases hv2
    · have hsm2 := hno2 rfl
      rw [← HLenB.out] at hsm2
      have hn1 : ls.length ≤ 4000 := by omega
      have hn2 : ms.length ≤ 4000 := by omega
      have hla : La.length ≤ 4000 := by omega
      have hlb : Lb.length ≤ 4000 := by omega
      have hlL : L.length ≤ 8000 := by rw [HLL.out]; omega
      have HR : Hid (∀ r ∈ ls ++ ms, RdB w r ∧ r.bs.length ≤ 8000) := fun r hr => by
        have h2 := row_le HLall.out r hr
        rcases List.mem_append.1 hr with h | h
        · exact ⟨(HRS.out r h).1, by omega⟩
        · exact ⟨(HMS.out r h).1, by omega⟩
      clear hno1 hno2 hsm1 hsm2
      go_wp2_with (first
        | (at_builtin; refine wpList_append_rd _ rfl (.tmp 15) (.tmp 16) 38 (by rfl) w.heap.size 23 i0 (.slice none 0 0) 1 24 Try.underlying38 hi hz0 hz1 hz2 rfl (by omega) (.slice (some ⟨w.heap.size, 0, none⟩) 0 0) 0 [] (by rfl) (World.ownsRow_made w #[] 0 (Nat.le_refl _) (by simp [maxLen]) rfl) A ls.length c (cR ls) (by rfl) (hr.alloc _) (cR_one _) (by unfold maxLen; omega) (by omega) (by simp) ?_; intro A1 c1 w1 hown1 hg1 hb1; simp only [Nat.zero_add, List.nil_append] at hown1; have hch1 : Chg [] w w1 := ((Chg.refl [] w).alloc _).grown hg1 (fun k hk => .inr (by simp [Value.ownBlock] at hk; omega)); have hsz1 := hch1.size; clear hg1 hb1)
        | (at_builtin; refine wpList_append_rd _ rfl (.tmp 17) (.tmp 18) 38 (by rfl) w.heap.size 23 i0 (.slice none 0 0) 1 24 Try.underlying38 hi hz0 hz1 hz2 rfl (by omega) (.slice A1 ls.length c1) ls.length (cR ls) (by rfl) hown1 B ms.length d (cR ms) (by rfl) (hr2.keep0 hch1) (cR_one _) (by unfold maxLen; omega) (by omega) hsz1 ?_; intro A2 c2 w2 hown2 hg2 hb2; have hch2 : Chg [] w w2 := hch1.grown hg2 (fun k hk => .inr (hown1.lt k hk).1); clear hg2 hb2))
      have hcap2 := own_cap hown2
      have hall2 : Rd w2 1 A2 (ls ++ ms).length (cR (ls ++ ms)) := by
        have h := Rd.of_own hown2
        have e : cR ls ++ cR ms = cR (ls ++ ms) := by simp [cR]
        rw [e] at h
        rw [List.length_append]; exact h
      have hlt2 : ∀ k, k ∈ blk A2 → k < w2.heap.size := fun k hk => (own_in hown2 k hk).2
      have Hlt2 := Lib.hid hlt2
      obtain ⟨N, HN⟩ : ∃ N, Hid (ls.length + ms.length = N) := ⟨_, rfl⟩
      have hN : (ls ++ ms).length = N := by rw [List.length_append]; exact HN.out
      have HNl := Lib.hid hN
      have hN8 : N ≤ 8000 := by rw [← HN.out]; omega
      rw [hN] at hall2
      rw [HN.out] at hcap2 ⊢
      clear hown1 hown2 hch1 hsz1 hlt2 hN
      refine (octJoin_any w2 A _ c ls La HLa rfl (hr.keep0 hch2) (fun r hr => ((HR.out r (List.mem_append_left _ hr)).1).keep0 hch2) (by omega) hlc (by omega)).mono ?_
      rintro e w3 ⟨A3, c3, rfl, ha3, _, _, hch3, _⟩
      have hchw3 := hch2.trans hch3 (by simp)
      go_wp2_with (fail)
      refine (octJoin_any w3 B _ d ms Lb HLb rfl (hr2.keep0 hchw3) (fun r hr => ((HR.out r (List.mem_append_right _ hr)).1).keep0 hchw3) (by omega) hmd (by omega)).mono ?_
      rintro e w4 ⟨A4, c4, rfl, ha4, _, _, hch4, _⟩
      have hchw4 := hchw3.trans hch4 (by simp)
      have ha3' := ha3.keep0 hch4
      go_wp2_with (fail)
      refine (octJoin_any _ (some ⟨w4.heap.size, 0, none⟩) 2 2 [⟨A3, c3, La⟩, ⟨A4, c4, Lb⟩] L (by unfold Hid; simp [HL.out]) rfl (Rd.new' (cs := #[.slice A3 La.length c3, .slice A4 Lb.length c4]) rfl rfl rfl)
        (fun r hr => by
          simp only [List.mem_cons, List.not_mem_nil, or_false] at hr
          rcases hr with rfl | rfl
          · exact ha3'.alloc _
          · exact ha4.alloc _) (by simp) (by simp) (by omega)).mono ?_
      rintro e w5 ⟨A5, c5, rfl, hx5, _, _, hch5, hown5⟩
      have hchw5 : Chg [] w w5 := ((hchw4.alloc _).trans hch5 (by simp))
      have hch25 : Chg [] w2 w5 := (((hch3.trans hch4 (by simp)).alloc _).trans hch5 (by simp))
      obtain ⟨wj, Hwj⟩ : ∃ wj, Hid (w4.alloc (.cells #[.slice A3 La.length c3, .slice A4 Lb.length c4] 23) = wj) := ⟨_, rfl⟩
      rw [Hwj.out] at hown5 hch5
      have hsj : w2.heap.size ≤ wj.heap.size := by rw [← Hwj.out]; exact ((hch3.trans hch4 (by simp)).alloc _).size
      have hsj0 : w.heap.size ≤ wj.heap.size := Nat.le_trans hch2.size hsj
      have HALL : ∀ (wX : World) (S : List Nat), (∀ k, k ∈ S → wj.heap.size ≤ k) → Chg S w2 wX → Rd wX 1 A2 (ls ++ ms).length (cR (ls ++ ms)) := fun wX S hS h => by
        rw [HNl.out]
        refine hall2.keep h (fun _ k hk hm => ?_)
        have h1 := Hlt2.out k hk
        have h2 := hS k hm
        omega
      have HALL := Lib.hid HALL
      clear ha3 ha3' ha4 hch3 hch4 hchw3 hchw4 hall2
      go_wp2_with (fail)
      refine (octJoin_any w5 A2 _ c2 (ls ++ ms) L HLall HNl.out (HALL.out w5 [] (by simp) hch25) (fun r hr => ((HR.out r hr).1).keep0 hchw5) (by have := HNl.out; omega) (by have := HNl.out; omega) (by omega)).mono ?_
      rintro e w6 ⟨A6, c6, rfl, hy6, _, _, hch6, _⟩
      have hx6 := hx5.keep0 hch6
      go_wp2_with (fail)
      refine (same_any w6 A5 A6 _ _ c5 c6 L L rfl rfl hx6 hy6 (by omega)).mono ?_
      rintro e w7 ⟨rfl, hch7⟩
      rw [decide_eq_true (rfl : L = L)]
      have hch57 := hch6.trans hch7 (by simp)
      have hchw7 := hchw5.trans hch57 (by simp)
      have hch27 := hch25.trans hch57 (by simp)
      have hx7 := hx5.keep0 hch57
      clear hy6
      obtain ⟨s, HS⟩ : ∃ s, Hid (crc L = s) := ⟨_, rfl⟩
      go_wp2_with (fail)
      refine (sum_to w7 A2 _ c2 (ls ++ ms) L HLall HNl.out (HALL.out w7 [] (by simp) hch27) (fun r hr => ⟨((HR.out r hr).1).keep0 hchw7, by have := (HR.out r hr).2; omega⟩) (by have := HNl.out; omega)).mono ?_
      rw [HS.out]
      rintro e w' ⟨rfl, rfl⟩
      go_wp2_with (fail)
      refine (sum_to _ (some ⟨w7.heap.size, 0, none⟩) 1 1 [⟨A5, c5, L⟩] L (by simp [Hid]) rfl (Rd.new' (cs := #[.slice A5 L.length c5]) rfl rfl rfl) (fun r hr => by obtain rfl := List.mem_singleton.1 hr; exact ⟨hx7.alloc _, by show L.length ≤ _; omega⟩) (by simp)).mono ?_
      rw [HS.out]
      rintro e w' ⟨rfl, rfl⟩
      have hch28 := hch27.alloc (.cells #[.slice A5 L.length c5] 23)
      have hch58 := hch57.alloc (.cells #[.slice A5 L.length c5] 23)
      have HPre : Hid (∀ k, k ≤ N → (((ls ++ ms).take k).map SlB.bs).flatten.length ≤ L.length) := fun k _ => by
        rw [← HLall.out]
        have e : (ls ++ ms).map SlB.bs = ((ls ++ ms).take k).map SlB.bs ++ ((ls ++ ms).drop k).map SlB.bs := by rw [← List.map_append, List.take_append_drop]
        rw [e, List.flatten_append, List.length_append]; omega
      obtain ⟨w8, Hw8⟩ : ∃ w8, Hid (w7.alloc (.cells #[.slice A5 L.length c5] 23) = w8) := ⟨_, rfl⟩
      rw [Hw8.out] at hch28 hch58 ⊢
      clear hch6 hch7 hx6 hx7 hch57 hchw7 hch27
      go_wp2_with (fail)
      go_loop [8, 7] (fun i v => ∃ k q : Nat, k ≤ N ∧ i = .int .i64 k ∧ v = .int .i64 q ∧ Hid (q = (((ls ++ ms).take k).map SlB.bs).flatten.length)) (fun i _ => N - (intOf i).toNat)
      case atStart => exact ⟨0, 0, Nat.zero_le _, rfl, rfl, by simp [Hid]⟩
      case round =>
        obtain ⟨k, q, hk, rfl, rfl, HQ⟩ := hrel
        by_cases hlt : k < N
        · have hlt' : k < (ls ++ ms).length := by rw [HNl.out]; exact hlt
          obtain ⟨ad, u, rfl, had, hu, hc⟩ := (HALL.out w8 [] (by simp) hch28).get hlt'
          rw [cR_get hlt'] at hu
          have hp1 := HPre.out (k + 1) hlt
          have HT : Hid ((((ls ++ ms).take (k + 1)).map SlB.bs).flatten.length = q + (ls ++ ms)[k].bs.length) := by
            unfold Hid; rw [List.take_succ_eq_append_getElem hlt', List.map_append, List.flatten_append, List.length_append, ← HQ.out, List.map_singleton]; simp only [List.flatten_cons, List.flatten_nil, List.append_nil]
          rw [HT.out] at hp1
          generalize (ls ++ ms)[k] = r at *
          obtain rfl : Value.slice r.A r.bs.length r.c = u := by simpa using hu
          clear hu
          obtain ⟨rA, rc, bs⟩ := r
          simp only at hc HT hp1
          go_wp2_with (fail)
          go_round
          case rel => exact ⟨k + 1, q + bs.length, by omega, by go_num, by go_num, HT.out.symm⟩
          case measure => simp [intOf]; omega
        · obtain rfl : k = N := by omega
          have hq : q = L.length := by rw [HQ.out, ← HNl.out, List.take_length, HLall.out]
          subst hq
          go_wp2_with (fail)
          refine (spoil_joined w8 wj A5 c5 L (hx5.keep0 hch58) (hown5.imp id (fun h => own_keep h hch58 (by simp))) (by omega) (by have := hch5.size; have := hch58.size; omega)).mono ?_
          rintro e w9 ⟨rfl, S, hS, hch9⟩
          have hch29 : Chg S w2 w9 := (hch28.mono (by simp)).trans hch9 (fun x hx => .inl hx)
          have hchw8 : Chg [] w w8 := hchw5.trans hch58 (by simp)
          have hchw9 : Chg [] w w9 := hchw8.trans hch9 (fun x hx => .inr (Nat.le_trans hsj0 (hS x hx)))
          have hr9 := HALL.out w9 S hS hch29
          go_wp2_with (fail)
          refine (octJoin_any w9 A2 _ c2 (ls ++ ms) L HLall HNl.out hr9 (fun r hr => ((HR.out r hr).1).keep0 hchw9) (by have := HNl.out; omega) (by have := HNl.out; omega) (by omega)).mono ?_
          rintro e w10 ⟨A10, c10, rfl, hy10, _, _, hch10, _⟩
          have hchw10 := hchw9.trans hch10 (by simp)
          go_wp2_with (fail)
          refine (octJoin_any w10 A _ c ls La HLa rfl (hr.keep0 hchw10) (fun r hr => ((HR.out r (List.mem_append_left _ hr)).1).keep0 hchw10) (by omega) hlc (by omega)).mono ?_
          rintro e w11 ⟨A11, c11, rfl, ha11, _, _, hch11, _⟩
          have hchw11 := hchw10.trans hch11 (by simp)
          go_wp2_with (fail)
          refine (octJoin_any w11 B _ d ms Lb HLb rfl (hr2.keep0 hchw11) (fun r hr => ((HR.out r (List.mem_append_right _ hr)).1).keep0 hchw11) (by omega) hmd (by omega)).mono ?_
          rintro e w12 ⟨A12, c12, rfl, ha12, _, _, hch12, _⟩
          have hchw12 := hchw11.trans hch12 (by simp)
          have ha11' := ha11.keep0 hch12
          go_wp2_with (fail)
          refine (octJoin_any _ (some ⟨w12.heap.size, 0, none⟩) 2 2 [⟨A11, c11, La⟩, ⟨A12, c12, Lb⟩] L (by unfold Hid; simp [HL.out]) rfl (Rd.new' (cs := #[.slice A11 La.length c11, .slice A12 Lb.length c12]) rfl rfl rfl)
            (fun r hr => by
              simp only [List.mem_cons, List.not_mem_nil, or_false] at hr
              rcases hr with rfl | rfl
              · exact ha11'.alloc _
              · exact ha12.alloc _) (by simp) (by simp) (by omega)).mono ?_
          rintro e w13 ⟨A13, c13, rfl, hy13, _, _, hch13, _⟩
          have hchw13 := (hchw12.alloc _).trans hch13 (by simp)
          have hy13' := hy10.keep0 (((hch11.trans hch12 (by simp)).alloc _).trans hch13 (by simp))
          go_wp2_with (fail)
          refine (same_any w13 A10 A13 _ _ c10 c13 L L rfl rfl hy13' hy13 (by omega)).mono ?_
          rintro e w14 ⟨rfl, hch14⟩
          rw [decide_eq_true (rfl : L = L)]
          go_wp2_with (go_at_call 11; refine (known_any _).mono ?_; rintro e w15 ⟨rfl, hch15⟩)
          go_ret
          exact ⟨rfl, (hchw13.trans hch14 (by simp)).trans hch15 (by simp)⟩
    · go_wp2_with (fail)
      go_ret
      exact ⟨rfl, Chg.refl _ _⟩
  · go_wp2_with (fail)
    go_ret
    exact ⟨rfl, Chg.refl _ _⟩
end Go.Proofs.Ytghabhhnhalpgaa
