
/-
  Merged by merge.py: WirR, WirR2.
-/
import Derived.Test.YtdfkednggjelcaaRecW2
import Derived.Test.YtdfkednggjelcaaRecS
import Derived.Test.YtdfkednggjelcaaMStamp
import Derived.Test.YtdfkednggjelcaaMBase
import Derived.Test.YtdfkednggjelcaaWirA1
import Derived.BigQuiet
import Derived.Deep.RegionHeld3
namespace Go.Proofs.Ytdfkednggjelcaa
open Go.RowKit
set_option linter.unusedVariables false

theorem refIsS_any (w : World) (m c : Int) : Calls Try.prog 62 #[.agg #[.int .i64 m, .int .i64 c]] w fun e w' => e = .returned (.bool (isS m c)) ∧ Chg [] w w' := by
  cases h : isS m c
  · exact refIs_no _ _ _ h
  · exact refIs_yes _ _ _ h
theorem refIsR_tt (w : World) (o q : Int) (key : List UInt8) (m c vo : Int) (A : Option Addr) (val : List UInt8) (cp : Nat) (gone : Bool) (ttl : Int) (s : Bool) (hs : isR ⟨o, q, key, m, c, vo, val, gone, ttl⟩ = s) :
    Calls Try.prog 22 #[.agg #[.int .i64 o, .int .i64 q, .string ⟨key.toArray⟩, .int .i64 m, .int .i64 c, .int .i64 vo, .slice A val.length cp, .bool gone, .int .i64 ttl]] w fun e w' =>
      e = .returned (.bool s) ∧ Chg [] w w' := by
  subst hs
  exact refIsR_any w o q key m c vo A val cp gone ttl

section
variable {P : Program} {ops : Array Oper} {Q : Exit → Act → World → Prop} {md : Region.Mode} {S : World → Prop}
/-- An operation that its guard leaves out is taken first. -/
theorem takeU {i : Nat} {oi : Oper} {d : Option Tmp} {fuel : Nat} {listed : Array Bool} {a : Act} {w : World} (hi : ops[i]? = some oi) (hd : oi.dst = d)
    (hs : Region.noSelect ops = true) (hf : Region.free md ops listed i = true) (hr : (Region.ready md ops listed).contains i = true)
    (hQ : ∀ c a w, Q (.panic c) (a.put d undef) w → Q (.panic c) a w) (hy : Region.wanted oi (yielded ops a.tmps) = false) (hS : S w)
    (h : wpAnyH P md ops Q S fuel (listed.setIfInBounds i true) (a.put d undef) w) : wpAnyH P md ops Q S (fuel + 1) listed a w := by
  subst hd
  exact wpAnyH_take hi hs hf hr hQ (Or.inr ⟨hy, rfl⟩) hS h
theorem takeW {i : Nat} {oi : Oper} {d : Option Tmp} {v : Value} {fuel : Nat} {listed : Array Bool} {a : Act} {w : World} (hi : ops[i]? = some oi) (hd : oi.dst = d)
    (hs : Region.noSelect ops = true) (hf : Region.free md ops listed i = true) (hr : (Region.ready md ops listed).contains i = true)
    (hQ : ∀ c a w, Q (.panic c) (a.put d v) w → Q (.panic c) a w) (hw : Region.wanted oi (yielded ops a.tmps) = true) (hy : ∀ w, S w → (execOp a.eval oi).run P w = .ok (.value v) w) (hS : S w)
    (h : wpAnyH P md ops Q S fuel (listed.setIfInBounds i true) (a.put d v) w) : wpAnyH P md ops Q S (fuel + 1) listed a w := by
  subst hd
  exact wpAnyH_take hi hs hf hr hQ (Or.inl ⟨hw, hy⟩) hS h
end

set_option linter.unusedSimpArgs false
set_option maxRecDepth 100000 in
set_option maxHeartbeats 64000000 in
theorem refRecs_any (w : World) (kd o q sm sc fm fc : Int) (A : Option Addr) (n c : Nat) (ls : List RcV) (hn : ls.length = n) (hr : Rd w 9 A ls.length (cRc ls)) (hls : ls.length ≤ 1099511627776) (hq0 : 0 ≤ q) (hq1 : q ≤ 1099511627776) :
    Calls Try.prog 69 #[.agg #[.int .i64 kd, .int .i64 o, .int .i64 q, .int .i64 sm, .int .i64 sc, .int .i64 fm, .int .i64 fc, .slice A n c]] w fun e w' =>
      e = .returned (.bool (goesW ⟨kd, o, q, sm, sc, fm, fc, ls.map RcV.r⟩)) ∧ Chg [] w w' := by
  subst hn
  have HR := Lib.hid (hr.alloc (.cells #[.int .i64 kd, .int .i64 o, .int .i64 q, .int .i64 sm, .int .i64 sc, .int .i64 fm, .int .i64 fc, .slice A ls.length c] 59))
  clear hr
  have h0 := Chg.alloc (.refl [] w) (.cells #[.int .i64 kd, .int .i64 o, .int .i64 q, .int .i64 sm, .int .i64 sc, .int .i64 fm, .int .i64 fc, .slice A ls.length c] 59)
  have a0 := At.new w 59 #[.int .i64 kd, .int .i64 o, .int .i64 q, .int .i64 sm, .int .i64 sc, .int .i64 fm, .int .i64 fc, .slice A ls.length c]
  by_cases h1 : ls.length = 0
  · have HN : Hid (goesW ⟨kd, o, q, sm, sc, fm, fc, ls.map RcV.r⟩ = false) := by unfold Hid goesW; simp [h1]
    have hb1 : (ls.length : Int) < 1 := by omega
    have H1 := Lib.hid h1
    clear h1
    go_enter Try.func69, Try.ntmps69
    go_wp2_with (fail)
    go_quiet (fail)
    go_wp2_with (fail)
    go_ret
    exact ⟨by rw [HN.out]; rfl, by first | exact h0.drewN _ | exact h0⟩
  have hb1 : decide ((ls.length : Int) < 1) = false := decide_eq_false (by omega)
  by_cases h2 : 64 < ls.length
  · have HN : Hid (goesW ⟨kd, o, q, sm, sc, fm, fc, ls.map RcV.r⟩ = false) := by unfold Hid goesW; simp only [List.length_map, decide_eq_false (show ¬ ls.length ≤ 64 by omega), Bool.and_false]
    have hb2 : decide ((64 : Int) < (ls.length : Int)) = true := decide_eq_true (by omega)
    have H1 := Lib.hid h1
    clear h1 h2
    go_enter Try.func69, Try.ntmps69
    go_wp2_with (fail)
    go_quiet (fail)
    go_wp2_with (fail)
    go_ret
    exact ⟨by rw [HN.out]; rfl, by first | exact h0.drewN _ | exact h0⟩
  have hpos : 0 < ls.length := by omega
  have h64 : ls.length ≤ 64 := by omega
  have hb2 : decide ((64 : Int) < (ls.length : Int)) = false := decide_eq_false (by omega)
  clear h1 h2
  obtain ⟨ad, rfl, had, -, hc⟩ := HR.out.getR hpos
  have y1 := hc 1 _ (by omega) rfl
  have i0 : (0 : Int) < (ls.length : Int) := by omega
  simp only [Nat.zero_mul, add_zero] at y1
  have h00 : Hid (ls[0].r.q ≠ q → goesW ⟨kd, o, q, sm, sc, fm, fc, ls.map RcV.r⟩ = false) := fun h => by
    unfold goesW
    simp only
    rw [goesL_no (i := 0) (by simpa using hpos) (by simpa using .inr (.inr h))]
    rfl
  obtain ⟨q0, hq0'⟩ : ∃ q0 : Int, Hid ((ls[0]'hpos).r.q = q0) := ⟨_, rfl⟩
  rw [hq0'.out] at y1 h00
  clear hc
  by_cases hqq : q0 = q
  rotate_left
  · have HN := Lib.hid (h00.out hqq)
    have hb3 : ((q0 : Int) != q) = true := by rw [bne_iff_ne]; exact hqq
    clear hqq h00
    go_enter Try.func69, Try.ntmps69
    go_wp2_with (fail)
    go_quiet (fail)
    go_wp2_with (fail)
    go_ret
    exact ⟨by rw [HN.out]; rfl, by first | exact h0.drewN _ | exact h0⟩
  have hb3 : ((q0 : Int) != q) = false := by rw [hqq]; simp
  rw [hqq] at hq0'
  have Hqq := Lib.hid hqq
  clear hqq h00
  go_enter Try.func69, Try.ntmps69
  go_wp2_with (fail)
  go_quiet (fail)
  go_wp2_with (fail)
  have HWW : Hid (goesL o q (ls.map RcV.r) = true → goesW ⟨kd, o, q, sm, sc, fm, fc, ls.map RcV.r⟩ = true) := fun h => by
    rw [goesW_iff]; simp only [List.length_map]; exact ⟨h, by omega, by omega⟩
  have hll : ls.length ≤ 64 := h64
  go_loopw [3] (fun i wr => ∃ k : Nat, k ≤ ls.length ∧ i = .int .i64 k ∧ Hid (∀ j (h : j < ls.length), j < k → isR ls[j].r = true ∧ ls[j].r.o = o ∧ ls[j].r.q = q + j) ∧ At wr w.heap.size 59 #[.int .i64 kd, .int .i64 o, .int .i64 q, .int .i64 sm, .int .i64 sc, .int .i64 fm, .int .i64 fc, .slice (some ad) ls.length c] ∧ Chg [] w wr ∧ Rd wr 9 (some ad) ls.length (cRc ls)) (fun i _ => ls.length - (intOf i).toNat)
  case atStart => first | exact ⟨0, Nat.zero_le _, rfl, by intro j h hj; omega, a0, h0, HR.out⟩ | exact ⟨0, Nat.zero_le _, rfl, by intro j h hj; omega, a0.drewN _, h0.drewN _, HR.out.drewN _⟩
  case round =>
    clear y1 hb1 hb2 hb3 i0 a0 h0 had
    obtain ⟨k, hk, rfl, HI, a1, hch, rd1⟩ := hrel
    have w1 := a1.cell 1
    have w7 := a1.cell 7
    simp only [List.getElem?_toArray, List.getElem?_cons_zero, List.getElem?_cons_succ] at w1 w7
    by_cases hlt : k < ls.length
    · obtain ⟨ad', he', had, hc0, hc⟩ := rd1.getR hlt
      obtain rfl : ad = ad' := by injection he'
      have HNo : Hid (isR ls[k].r = false ∨ ls[k].r.o ≠ o ∨ ls[k].r.q ≠ q + k → goesW ⟨kd, o, q, sm, sc, fm, fc, ls.map RcV.r⟩ = false) := fun h => by
        unfold goesW
        simp only
        rw [goesL_no (i := k) (by simpa using hlt) (by simpa using h)]
        rfl
      have HYes : Hid (isR ls[k].r = true → ls[k].r.o = o → ls[k].r.q = q + k → ∀ j (h : j < ls.length), j < k + 1 → isR ls[j].r = true ∧ ls[j].r.o = o ∧ ls[j].r.q = q + j) := fun h1 h2 h3 j h hj => by
        by_cases e : j = k
        · subst e; exact ⟨h1, h2, h3⟩
        · exact HI.out j h (by omega)
      have HQ0 : Hid (k = 0 → ls[k].r.q = q + k) := fun h => by subst h; rw [hq0'.out]; simp
      -- the one before
      have HP : Hid (0 < k → wr.cell? ⟨(ad.add ((k - 1) * 9)).block, (ad.add ((k - 1) * 9)).off + 1, none⟩ = some (.int .i64 (q + (k - 1 : Nat))) ∧ q + (k - 1 : Nat) ≤ 1099511627776) := fun h => by
        obtain ⟨ad2, he2, _, _, hc2⟩ := rd1.getR (show k - 1 < ls.length by omega)
        obtain rfl : ad = ad2 := by injection he2
        obtain ⟨i1, _, i3⟩ := HI.out (k - 1) (by omega) (by omega)
        have e1 := hc2 1 _ (by omega) rfl
        refine ⟨e1.trans ?_, ?_⟩
        · show some (Value.int .i64 ls[k - 1].r.q) = _
          rw [i3]
        · rw [← i3]; exact (isR_iff.1 i1).q2
      have hc1 := hc 1 _ (by omega) rfl
      have hc2 := hc 2 _ (by omega) rfl
      have hc3 := hc 3 _ (by omega) rfl
      have hc4 := hc 4 _ (by omega) rfl
      have hc5 := hc 5 _ (by omega) rfl
      have hc6 := hc 6 _ (by omega) rfl
      have hc7 := hc 7 _ (by omega) rfl
      have hc8 := hc 8 _ (by omega) rfl
      generalize ls[k] = r at *
      clear hc
      obtain ⟨⟨ro, rq, key, m, c', vo, val, gone, ttl⟩, A', cp⟩ := r
      simp only at hc0 hc1 hc2 hc3 hc4 hc5 hc6 hc7 hc8 HNo HYes HQ0
      have hki : (k : Int) < (ls.length : Int) := by omega
      go_wp2_with (fail)
      have ga := At.new wr 51 #[.int .i64 ro, .int .i64 rq, .string ⟨key.toArray⟩, .int .i64 m, .int .i64 c', .int .i64 vo, .slice A' val.length cp, .bool gone, .int .i64 ttl]
      have a2 := a1.al (.cells #[.int .i64 ro, .int .i64 rq, .string ⟨key.toArray⟩, .int .i64 m, .int .i64 c', .int .i64 vo, .slice A' val.length cp, .bool gone, .int .i64 ttl] 51)
      have hcb := hch.alloc (.cells #[.int .i64 ro, .int .i64 rq, .string ⟨key.toArray⟩, .int .i64 m, .int .i64 c', .int .i64 vo, .slice A' val.length cp, .bool gone, .int .i64 ttl] 51)
      have rd2 := rd1.alloc (.cells #[.int .i64 ro, .int .i64 rq, .string ⟨key.toArray⟩, .int .i64 m, .int .i64 c', .int .i64 vo, .slice A' val.length cp, .bool gone, .int .i64 ttl] 51)
      have hg0 : w.heap.size < wr.heap.size := a1.lt
      have HPb : Hid (∀ w', Chg [] (wr.alloc (.cells #[.int .i64 ro, .int .i64 rq, .string ⟨key.toArray⟩, .int .i64 m, .int .i64 c', .int .i64 vo, .slice A' val.length cp, .bool gone, .int .i64 ttl] 51)) w' → 0 < k → w'.cell? ⟨(ad.add ((k - 1) * 9)).block, (ad.add ((k - 1) * 9)).off + 1, none⟩ = some (.int .i64 (q + (k - 1 : Nat)))) := fun w' hc hk =>
        (((Chg.refl [] wr).alloc _).trans hc (by simp) |>.cell (p := ⟨(ad.add ((k - 1) * 9)).block, (ad.add ((k - 1) * 9)).off + 1, none⟩) (by show (ad.add ((k - 1) * 9)).block < _; rw [add_block]; exact had) (by simp)).trans (HP.out hk).1
      have HPq : Hid (0 < k → q + (k - 1 : Nat) ≤ 1099511627776) := fun h => (HP.out h).2
      clear hc0 hc1 hc2 hc3 hc4 hc5 hc6 hc7 hc8 w1 w7 a1 rd1 hch HP HI
      generalize hgw : wr.heap.size = g at *
      generalize wr.alloc (.cells #[.int .i64 ro, .int .i64 rq, .string ⟨key.toArray⟩, .int .i64 m, .int .i64 c', .int .i64 vo, .slice A' val.length cp, .bool gone, .int .i64 ttl] 51) = wb at *
      have KK : Hid (∀ w', Chg [] wb w' → w'.cell? ⟨g, 0, none⟩ = some (.int .i64 ro) ∧ w'.cell? ⟨g, 1, none⟩ = some (.int .i64 rq) ∧ w'.cell? ⟨g, 2, none⟩ = some (.string ⟨key.toArray⟩) ∧ w'.cell? ⟨g, 3, none⟩ = some (.int .i64 m) ∧ w'.cell? ⟨g, 4, none⟩ = some (.int .i64 c') ∧ w'.cell? ⟨g, 5, none⟩ = some (.int .i64 vo) ∧ w'.cell? ⟨g, 6, none⟩ = some (.slice A' val.length cp) ∧ w'.cell? ⟨g, 7, none⟩ = some (.bool gone) ∧ w'.cell? ⟨g, 8, none⟩ = some (.int .i64 ttl) ∧ w'.cell? ⟨w.heap.size, 1, none⟩ = some (.int .i64 o) ∧ w'.cell? ⟨w.heap.size, 7, none⟩ = some (.slice (some ad) ls.length c)) := fun w' hc => ⟨(ga.keep hc (by simp)).cell 0, (ga.keep hc (by simp)).cell 1, (ga.keep hc (by simp)).cell 2, (ga.keep hc (by simp)).cell 3, (ga.keep hc (by simp)).cell 4, (ga.keep hc (by simp)).cell 5, (ga.keep hc (by simp)).cell 6, (ga.keep hc (by simp)).cell 7, (ga.keep hc (by simp)).cell 8, (a2.keep hc (by simp)).cell 1, (a2.keep hc (by simp)).cell 7⟩
      obtain ⟨s, hs⟩ : ∃ s, Hid (isR ⟨ro, rq, key, m, c', vo, val, gone, ttl⟩ = s) := ⟨_, rfl⟩
      rw [hs.out] at HNo HYes
      cases s
      · have HN := Lib.hid (HNo.out (.inl rfl))
        clear HNo HYes HPb HPq HQ0
        refine wp_region_held_drew (S := fun w' => w'.cell? ⟨g, 0, none⟩ = some (.int .i64 ro) ∧ w'.cell? ⟨g, 1, none⟩ = some (.int .i64 rq) ∧ w'.cell? ⟨g, 2, none⟩ = some (.string ⟨key.toArray⟩) ∧ w'.cell? ⟨g, 3, none⟩ = some (.int .i64 m) ∧ w'.cell? ⟨g, 4, none⟩ = some (.int .i64 c') ∧ w'.cell? ⟨g, 5, none⟩ = some (.int .i64 vo) ∧ w'.cell? ⟨g, 6, none⟩ = some (.slice A' val.length cp) ∧ w'.cell? ⟨g, 7, none⟩ = some (.bool gone) ∧ w'.cell? ⟨g, 8, none⟩ = some (.int .i64 ttl) ∧ w'.cell? ⟨w.heap.size, 1, none⟩ = some (.int .i64 o) ∧ w'.cell? ⟨w.heap.size, 7, none⟩ = some (.slice (some ad) ls.length c)) (by kernel_rfl) ?_ (fun hHeld => ?_)
        · exact KK.out _ ((Chg.refl [] wb).drewN 1)
        refine takeW (i := 0) (d := (some 37)) (v := ?_) rfl rfl (by kernel_rfl) (by kernel_rfl) (by kernel_rfl) (fun _ _ _ h => h) (by rfl) ?_ (by assumption) ?_
        rotate_left
        · intro w' hSw; (try dsimp only at hSw); go_simp; try with_reducible rfl
        try simp only [Act.put, List.setIfInBounds_toArray, List.set_cons_zero, List.set_cons_succ]
        refine wpAnyH_ready (rs := [1]) (by kernel_rfl) (by simp) ?_
        refine AllReadyH.cons rfl (fun K hK => ?_) AllReadyH.nil
        go_simp
        go_at_call 22
        (with_reducible refine (refIsR_tt _ ro rq key m c' vo A' val cp gone ttl _ hs.out).mono ?_)
        rintro e w3 ⟨rfl, hch3⟩
        have hch23 : Hid (Chg [] wb w3) := ((by repeat' (first | (with_reducible assumption) | (with_reducible exact Chg.refl _ _) | (with_reducible refine Chg.alloc ?_ _) | (with_reducible refine Chg.drewN ?_ _) | (with_reducible refine Chg.drew ?_) | (with_reducible refine Chg.strW ?_ _ _) | (with_reducible refine Chg.t0 ?_ (by with_reducible assumption)))) : Chg [] wb w3)
        go_wp2_with (fail)
        refine hK.out _ _ ?_ (fun hHeld => ?_)
        · first | exact KK.out _ hch23.out | (dsimp only; exact KK.out _ hch23.out)
        clear hK K
        try simp only [Act.put, List.setIfInBounds_toArray, List.set_cons_zero, List.set_cons_succ]
        refine takeW (i := 2) (d := (some 39)) (v := ?_) rfl rfl (by kernel_rfl) (by kernel_rfl) (by kernel_rfl) (fun _ _ _ h => h) (by rfl) ?_ (by assumption) ?_
        rotate_left
        · intro w' hSw; (try dsimp only at hSw); go_simp; try with_reducible rfl
        try simp only [Act.put, List.setIfInBounds_toArray, List.set_cons_zero, List.set_cons_succ]
        refine takeW (i := 3) (d := (some 40)) (v := ?_) rfl rfl (by kernel_rfl) (by kernel_rfl) (by kernel_rfl) (fun _ _ _ h => h) (by rfl) ?_ (by assumption) ?_
        rotate_left
        · intro w' hSw; (try dsimp only at hSw); go_simp; try with_reducible rfl
        try simp only [Act.put, List.setIfInBounds_toArray, List.set_cons_zero, List.set_cons_succ]
        refine takeU (i := 4) (d := (some 41)) rfl rfl (by kernel_rfl) (by kernel_rfl) (by kernel_rfl) (fun _ _ _ h => h) (by rfl) (by assumption) ?_
        try simp only [Act.put, List.setIfInBounds_toArray, List.set_cons_zero, List.set_cons_succ]
        refine takeU (i := 5) (d := (some 42)) rfl rfl (by kernel_rfl) (by kernel_rfl) (by kernel_rfl) (fun _ _ _ h => h) (by rfl) (by assumption) ?_
        try simp only [Act.put, List.setIfInBounds_toArray, List.set_cons_zero, List.set_cons_succ]
        refine takeU (i := 6) (d := (some 43)) rfl rfl (by kernel_rfl) (by kernel_rfl) (by kernel_rfl) (fun _ _ _ h => h) (by rfl) (by assumption) ?_
        try simp only [Act.put, List.setIfInBounds_toArray, List.set_cons_zero, List.set_cons_succ]
        refine takeU (i := 7) (d := (some 44)) rfl rfl (by kernel_rfl) (by kernel_rfl) (by kernel_rfl) (fun _ _ _ h => h) (by rfl) (by assumption) ?_
        try simp only [Act.put, List.setIfInBounds_toArray, List.set_cons_zero, List.set_cons_succ]
        refine takeU (i := 8) (d := (some 45)) rfl rfl (by kernel_rfl) (by kernel_rfl) (by kernel_rfl) (fun _ _ _ h => h) (by rfl) (by assumption) ?_
        try simp only [Act.put, List.setIfInBounds_toArray, List.set_cons_zero, List.set_cons_succ]
        refine takeW (i := 9) (d := (some 46)) (v := ?_) rfl rfl (by kernel_rfl) (by kernel_rfl) (by kernel_rfl) (fun _ _ _ h => h) (by rfl) ?_ (by assumption) ?_
        rotate_left
        · intro w' hSw; (try dsimp only at hSw); go_simp; try with_reducible rfl
        try simp only [Act.put, List.setIfInBounds_toArray, List.set_cons_zero, List.set_cons_succ]
        refine takeW (i := 10) (d := (some 47)) (v := ?_) rfl rfl (by kernel_rfl) (by kernel_rfl) (by kernel_rfl) (fun _ _ _ h => h) (by rfl) ?_ (by assumption) ?_
        rotate_left
        · intro w' hSw; (try dsimp only at hSw); go_simp; try with_reducible rfl
        try simp only [Act.put, List.setIfInBounds_toArray, List.set_cons_zero, List.set_cons_succ]
        refine takeU (i := 11) (d := (some 48)) rfl rfl (by kernel_rfl) (by kernel_rfl) (by kernel_rfl) (fun _ _ _ h => h) (by rfl) (by assumption) ?_
        try simp only [Act.put, List.setIfInBounds_toArray, List.set_cons_zero, List.set_cons_succ]
        refine takeU (i := 12) (d := (some 49)) rfl rfl (by kernel_rfl) (by kernel_rfl) (by kernel_rfl) (fun _ _ _ h => h) (by rfl) (by assumption) ?_
        try simp only [Act.put, List.setIfInBounds_toArray, List.set_cons_zero, List.set_cons_succ]
        refine takeU (i := 13) (d := (some 50)) rfl rfl (by kernel_rfl) (by kernel_rfl) (by kernel_rfl) (fun _ _ _ h => h) (by rfl) (by assumption) ?_
        try simp only [Act.put, List.setIfInBounds_toArray, List.set_cons_zero, List.set_cons_succ]
        refine takeU (i := 14) (d := (some 51)) rfl rfl (by kernel_rfl) (by kernel_rfl) (by kernel_rfl) (fun _ _ _ h => h) (by rfl) (by assumption) ?_
        try simp only [Act.put, List.setIfInBounds_toArray, List.set_cons_zero, List.set_cons_succ]
        refine takeU (i := 15) (d := (some 52)) rfl rfl (by kernel_rfl) (by kernel_rfl) (by kernel_rfl) (fun _ _ _ h => h) (by rfl) (by assumption) ?_
        try simp only [Act.put, List.setIfInBounds_toArray, List.set_cons_zero, List.set_cons_succ]
        refine takeU (i := 16) (d := (some 53)) rfl rfl (by kernel_rfl) (by kernel_rfl) (by kernel_rfl) (fun _ _ _ h => h) (by rfl) (by assumption) ?_
        try simp only [Act.put, List.setIfInBounds_toArray, List.set_cons_zero, List.set_cons_succ]
        refine takeU (i := 17) (d := (some 54)) rfl rfl (by kernel_rfl) (by kernel_rfl) (by kernel_rfl) (fun _ _ _ h => h) (by rfl) (by assumption) ?_
        try simp only [Act.put, List.setIfInBounds_toArray, List.set_cons_zero, List.set_cons_succ]
        refine takeU (i := 18) (d := (some 55)) rfl rfl (by kernel_rfl) (by kernel_rfl) (by kernel_rfl) (fun _ _ _ h => h) (by rfl) (by assumption) ?_
        try simp only [Act.put, List.setIfInBounds_toArray, List.set_cons_zero, List.set_cons_succ]
        refine takeU (i := 19) (d := (some 56)) rfl rfl (by kernel_rfl) (by kernel_rfl) (by kernel_rfl) (fun _ _ _ h => h) (by rfl) (by assumption) ?_
        try simp only [Act.put, List.setIfInBounds_toArray, List.set_cons_zero, List.set_cons_succ]
        refine takeU (i := 20) (d := (some 57)) rfl rfl (by kernel_rfl) (by kernel_rfl) (by kernel_rfl) (fun _ _ _ h => h) (by rfl) (by assumption) ?_
        try simp only [Act.put, List.setIfInBounds_toArray, List.set_cons_zero, List.set_cons_succ]
        refine takeU (i := 21) (d := (some 58)) rfl rfl (by kernel_rfl) (by kernel_rfl) (by kernel_rfl) (fun _ _ _ h => h) (by rfl) (by assumption) ?_
        try simp only [Act.put, List.setIfInBounds_toArray, List.set_cons_zero, List.set_cons_succ]
        refine takeU (i := 22) (d := (some 59)) rfl rfl (by kernel_rfl) (by kernel_rfl) (by kernel_rfl) (fun _ _ _ h => h) (by rfl) (by assumption) ?_
        try simp only [Act.put, List.setIfInBounds_toArray, List.set_cons_zero, List.set_cons_succ]
        refine takeU (i := 23) (d := (some 60)) rfl rfl (by kernel_rfl) (by kernel_rfl) (by kernel_rfl) (fun _ _ _ h => h) (by rfl) (by assumption) ?_
        try simp only [Act.put, List.setIfInBounds_toArray, List.set_cons_zero, List.set_cons_succ]
        refine takeU (i := 24) (d := (some 61)) rfl rfl (by kernel_rfl) (by kernel_rfl) (by kernel_rfl) (fun _ _ _ h => h) (by rfl) (by assumption) ?_
        try simp only [Act.put, List.setIfInBounds_toArray, List.set_cons_zero, List.set_cons_succ]
        refine takeU (i := 25) (d := (some 62)) rfl rfl (by kernel_rfl) (by kernel_rfl) (by kernel_rfl) (fun _ _ _ h => h) (by rfl) (by assumption) ?_
        try simp only [Act.put, List.setIfInBounds_toArray, List.set_cons_zero, List.set_cons_succ]
        refine takeW (i := 26) (d := (some 63)) (v := ?_) rfl rfl (by kernel_rfl) (by kernel_rfl) (by kernel_rfl) (fun _ _ _ h => h) (by rfl) ?_ (by assumption) ?_
        rotate_left
        · intro w' hSw; (try dsimp only at hSw); go_simp; try with_reducible rfl
        try simp only [Act.put, List.setIfInBounds_toArray, List.set_cons_zero, List.set_cons_succ]
        refine wpAnyH_done (by kernel_rfl) ?_ _
        go_wp2_with (fail)
        go_ret
        exact ⟨by rw [HN.out]; rfl, hcb.trans hch23.out (by simp)⟩
      · by_cases ho : ro = o
        rotate_left
        · have hob : ((ro : Int) != o) = true := by rw [bne_iff_ne]; exact ho
          have HN := Lib.hid (HNo.out (.inr (.inl ho)))
          clear HNo HYes HPb HPq HQ0 ho
          refine wp_region_held_drew (S := fun w' => w'.cell? ⟨g, 0, none⟩ = some (.int .i64 ro) ∧ w'.cell? ⟨g, 1, none⟩ = some (.int .i64 rq) ∧ w'.cell? ⟨g, 2, none⟩ = some (.string ⟨key.toArray⟩) ∧ w'.cell? ⟨g, 3, none⟩ = some (.int .i64 m) ∧ w'.cell? ⟨g, 4, none⟩ = some (.int .i64 c') ∧ w'.cell? ⟨g, 5, none⟩ = some (.int .i64 vo) ∧ w'.cell? ⟨g, 6, none⟩ = some (.slice A' val.length cp) ∧ w'.cell? ⟨g, 7, none⟩ = some (.bool gone) ∧ w'.cell? ⟨g, 8, none⟩ = some (.int .i64 ttl) ∧ w'.cell? ⟨w.heap.size, 1, none⟩ = some (.int .i64 o) ∧ w'.cell? ⟨w.heap.size, 7, none⟩ = some (.slice (some ad) ls.length c)) (by kernel_rfl) ?_ (fun hHeld => ?_)
          · exact KK.out _ ((Chg.refl [] wb).drewN 1)
          refine takeW (i := 0) (d := (some 37)) (v := ?_) rfl rfl (by kernel_rfl) (by kernel_rfl) (by kernel_rfl) (fun _ _ _ h => h) (by rfl) ?_ (by assumption) ?_
          rotate_left
          · intro w' hSw; (try dsimp only at hSw); go_simp; try with_reducible rfl
          try simp only [Act.put, List.setIfInBounds_toArray, List.set_cons_zero, List.set_cons_succ]
          refine wpAnyH_ready (rs := [1]) (by kernel_rfl) (by simp) ?_
          refine AllReadyH.cons rfl (fun K hK => ?_) AllReadyH.nil
          go_simp
          go_at_call 22
          (with_reducible refine (refIsR_tt _ ro rq key m c' vo A' val cp gone ttl _ hs.out).mono ?_)
          rintro e w3 ⟨rfl, hch3⟩
          have hch23 : Hid (Chg [] wb w3) := ((by repeat' (first | (with_reducible assumption) | (with_reducible exact Chg.refl _ _) | (with_reducible refine Chg.alloc ?_ _) | (with_reducible refine Chg.drewN ?_ _) | (with_reducible refine Chg.drew ?_) | (with_reducible refine Chg.strW ?_ _ _) | (with_reducible refine Chg.t0 ?_ (by with_reducible assumption)))) : Chg [] wb w3)
          go_wp2_with (fail)
          refine hK.out _ _ ?_ (fun hHeld => ?_)
          · first | exact KK.out _ hch23.out | (dsimp only; exact KK.out _ hch23.out)
          clear hK K
          try simp only [Act.put, List.setIfInBounds_toArray, List.set_cons_zero, List.set_cons_succ]
          refine takeW (i := 2) (d := (some 39)) (v := ?_) rfl rfl (by kernel_rfl) (by kernel_rfl) (by kernel_rfl) (fun _ _ _ h => h) (by rfl) ?_ (by assumption) ?_
          rotate_left
          · intro w' hSw; (try dsimp only at hSw); go_simp; try with_reducible rfl
          try simp only [Act.put, List.setIfInBounds_toArray, List.set_cons_zero, List.set_cons_succ]
          refine takeW (i := 3) (d := (some 40)) (v := ?_) rfl rfl (by kernel_rfl) (by kernel_rfl) (by kernel_rfl) (fun _ _ _ h => h) (by rfl) ?_ (by assumption) ?_
          rotate_left
          · intro w' hSw; (try dsimp only at hSw); go_simp; try with_reducible rfl
          try simp only [Act.put, List.setIfInBounds_toArray, List.set_cons_zero, List.set_cons_succ]
          refine takeW (i := 4) (d := (some 41)) (v := ?_) rfl rfl (by kernel_rfl) (by kernel_rfl) (by kernel_rfl) (fun _ _ _ h => h) (by rfl) ?_ (by assumption) ?_
          rotate_left
          · intro w' hSw; (try dsimp only at hSw); go_simp; try with_reducible rfl
          try simp only [Act.put, List.setIfInBounds_toArray, List.set_cons_zero, List.set_cons_succ]
          refine takeW (i := 5) (d := (some 42)) (v := ?_) rfl rfl (by kernel_rfl) (by kernel_rfl) (by kernel_rfl) (fun _ _ _ h => h) (by rfl) ?_ (by assumption) ?_
          rotate_left
          · intro w' hSw; (try dsimp only at hSw); go_simp; try with_reducible rfl
          try simp only [Act.put, List.setIfInBounds_toArray, List.set_cons_zero, List.set_cons_succ]
          refine takeW (i := 6) (d := (some 43)) (v := ?_) rfl rfl (by kernel_rfl) (by kernel_rfl) (by kernel_rfl) (fun _ _ _ h => h) (by rfl) ?_ (by assumption) ?_
          rotate_left
          · intro w' hSw; (try dsimp only at hSw); go_simp; try with_reducible rfl
          try simp only [Act.put, List.setIfInBounds_toArray, List.set_cons_zero, List.set_cons_succ]
          refine takeW (i := 7) (d := (some 44)) (v := ?_) rfl rfl (by kernel_rfl) (by kernel_rfl) (by kernel_rfl) (fun _ _ _ h => h) (by rfl) ?_ (by assumption) ?_
          rotate_left
          · intro w' hSw; (try dsimp only at hSw); go_simp; try with_reducible rfl
          try simp only [Act.put, List.setIfInBounds_toArray, List.set_cons_zero, List.set_cons_succ]
          refine takeW (i := 8) (d := (some 45)) (v := ?_) rfl rfl (by kernel_rfl) (by kernel_rfl) (by kernel_rfl) (fun _ _ _ h => h) (by rfl) ?_ (by assumption) ?_
          rotate_left
          · intro w' hSw; (try dsimp only at hSw); go_simp; try with_reducible rfl
          try simp only [Act.put, List.setIfInBounds_toArray, List.set_cons_zero, List.set_cons_succ]
          refine takeW (i := 9) (d := (some 46)) (v := ?_) rfl rfl (by kernel_rfl) (by kernel_rfl) (by kernel_rfl) (fun _ _ _ h => h) (by rfl) ?_ (by assumption) ?_
          rotate_left
          · intro w' hSw; (try dsimp only at hSw); go_simp; try with_reducible rfl
          try simp only [Act.put, List.setIfInBounds_toArray, List.set_cons_zero, List.set_cons_succ]
          refine takeW (i := 10) (d := (some 47)) (v := ?_) rfl rfl (by kernel_rfl) (by kernel_rfl) (by kernel_rfl) (fun _ _ _ h => h) (by rfl) ?_ (by assumption) ?_
          rotate_left
          · intro w' hSw; (try dsimp only at hSw); go_simp; try with_reducible rfl
          try simp only [Act.put, List.setIfInBounds_toArray, List.set_cons_zero, List.set_cons_succ]
          refine takeU (i := 11) (d := (some 48)) rfl rfl (by kernel_rfl) (by kernel_rfl) (by kernel_rfl) (fun _ _ _ h => h) (by rfl) (by assumption) ?_
          try simp only [Act.put, List.setIfInBounds_toArray, List.set_cons_zero, List.set_cons_succ]
          refine takeU (i := 12) (d := (some 49)) rfl rfl (by kernel_rfl) (by kernel_rfl) (by kernel_rfl) (fun _ _ _ h => h) (by rfl) (by assumption) ?_
          try simp only [Act.put, List.setIfInBounds_toArray, List.set_cons_zero, List.set_cons_succ]
          refine takeU (i := 13) (d := (some 50)) rfl rfl (by kernel_rfl) (by kernel_rfl) (by kernel_rfl) (fun _ _ _ h => h) (by rfl) (by assumption) ?_
          try simp only [Act.put, List.setIfInBounds_toArray, List.set_cons_zero, List.set_cons_succ]
          refine takeU (i := 14) (d := (some 51)) rfl rfl (by kernel_rfl) (by kernel_rfl) (by kernel_rfl) (fun _ _ _ h => h) (by rfl) (by assumption) ?_
          try simp only [Act.put, List.setIfInBounds_toArray, List.set_cons_zero, List.set_cons_succ]
          refine takeU (i := 15) (d := (some 52)) rfl rfl (by kernel_rfl) (by kernel_rfl) (by kernel_rfl) (fun _ _ _ h => h) (by rfl) (by assumption) ?_
          try simp only [Act.put, List.setIfInBounds_toArray, List.set_cons_zero, List.set_cons_succ]
          refine takeU (i := 16) (d := (some 53)) rfl rfl (by kernel_rfl) (by kernel_rfl) (by kernel_rfl) (fun _ _ _ h => h) (by rfl) (by assumption) ?_
          try simp only [Act.put, List.setIfInBounds_toArray, List.set_cons_zero, List.set_cons_succ]
          refine takeU (i := 17) (d := (some 54)) rfl rfl (by kernel_rfl) (by kernel_rfl) (by kernel_rfl) (fun _ _ _ h => h) (by rfl) (by assumption) ?_
          try simp only [Act.put, List.setIfInBounds_toArray, List.set_cons_zero, List.set_cons_succ]
          refine takeU (i := 18) (d := (some 55)) rfl rfl (by kernel_rfl) (by kernel_rfl) (by kernel_rfl) (fun _ _ _ h => h) (by rfl) (by assumption) ?_
          try simp only [Act.put, List.setIfInBounds_toArray, List.set_cons_zero, List.set_cons_succ]
          refine takeU (i := 19) (d := (some 56)) rfl rfl (by kernel_rfl) (by kernel_rfl) (by kernel_rfl) (fun _ _ _ h => h) (by rfl) (by assumption) ?_
          try simp only [Act.put, List.setIfInBounds_toArray, List.set_cons_zero, List.set_cons_succ]
          refine takeU (i := 20) (d := (some 57)) rfl rfl (by kernel_rfl) (by kernel_rfl) (by kernel_rfl) (fun _ _ _ h => h) (by rfl) (by assumption) ?_
          try simp only [Act.put, List.setIfInBounds_toArray, List.set_cons_zero, List.set_cons_succ]
          refine takeU (i := 21) (d := (some 58)) rfl rfl (by kernel_rfl) (by kernel_rfl) (by kernel_rfl) (fun _ _ _ h => h) (by rfl) (by assumption) ?_
          try simp only [Act.put, List.setIfInBounds_toArray, List.set_cons_zero, List.set_cons_succ]
          refine takeU (i := 22) (d := (some 59)) rfl rfl (by kernel_rfl) (by kernel_rfl) (by kernel_rfl) (fun _ _ _ h => h) (by rfl) (by assumption) ?_
          try simp only [Act.put, List.setIfInBounds_toArray, List.set_cons_zero, List.set_cons_succ]
          refine takeU (i := 23) (d := (some 60)) rfl rfl (by kernel_rfl) (by kernel_rfl) (by kernel_rfl) (fun _ _ _ h => h) (by rfl) (by assumption) ?_
          try simp only [Act.put, List.setIfInBounds_toArray, List.set_cons_zero, List.set_cons_succ]
          refine takeU (i := 24) (d := (some 61)) rfl rfl (by kernel_rfl) (by kernel_rfl) (by kernel_rfl) (fun _ _ _ h => h) (by rfl) (by assumption) ?_
          try simp only [Act.put, List.setIfInBounds_toArray, List.set_cons_zero, List.set_cons_succ]
          refine takeU (i := 25) (d := (some 62)) rfl rfl (by kernel_rfl) (by kernel_rfl) (by kernel_rfl) (fun _ _ _ h => h) (by rfl) (by assumption) ?_
          try simp only [Act.put, List.setIfInBounds_toArray, List.set_cons_zero, List.set_cons_succ]
          refine takeW (i := 26) (d := (some 63)) (v := ?_) rfl rfl (by kernel_rfl) (by kernel_rfl) (by kernel_rfl) (fun _ _ _ h => h) (by rfl) ?_ (by assumption) ?_
          rotate_left
          · intro w' hSw; (try dsimp only at hSw); go_simp; try with_reducible rfl
          try simp only [Act.put, List.setIfInBounds_toArray, List.set_cons_zero, List.set_cons_succ]
          refine wpAnyH_done (by kernel_rfl) ?_ _
          go_wp2_with (fail)
          go_ret
          exact ⟨by rw [HN.out]; rfl, hcb.trans hch23.out (by simp)⟩
        have hob : ((ro : Int) != o) = false := by rw [ho]; simp
        have Ho := Lib.hid ho
        clear ho
        rcases Nat.eq_zero_or_pos k with hk0 | hk0
        · have HY := Lib.hid (HYes.out rfl Ho.out (HQ0.out hk0))
          have hkb : decide ((0 : Int) < (k : Int)) = false := decide_eq_false (by omega)
          clear HNo HYes HPb HPq HQ0
          refine wp_region_held_drew (S := fun w' => w'.cell? ⟨g, 0, none⟩ = some (.int .i64 ro) ∧ w'.cell? ⟨g, 1, none⟩ = some (.int .i64 rq) ∧ w'.cell? ⟨g, 2, none⟩ = some (.string ⟨key.toArray⟩) ∧ w'.cell? ⟨g, 3, none⟩ = some (.int .i64 m) ∧ w'.cell? ⟨g, 4, none⟩ = some (.int .i64 c') ∧ w'.cell? ⟨g, 5, none⟩ = some (.int .i64 vo) ∧ w'.cell? ⟨g, 6, none⟩ = some (.slice A' val.length cp) ∧ w'.cell? ⟨g, 7, none⟩ = some (.bool gone) ∧ w'.cell? ⟨g, 8, none⟩ = some (.int .i64 ttl) ∧ w'.cell? ⟨w.heap.size, 1, none⟩ = some (.int .i64 o) ∧ w'.cell? ⟨w.heap.size, 7, none⟩ = some (.slice (some ad) ls.length c)) (by kernel_rfl) ?_ (fun hHeld => ?_)
          · exact KK.out _ ((Chg.refl [] wb).drewN 1)
          refine takeW (i := 0) (d := (some 37)) (v := ?_) rfl rfl (by kernel_rfl) (by kernel_rfl) (by kernel_rfl) (fun _ _ _ h => h) (by rfl) ?_ (by assumption) ?_
          rotate_left
          · intro w' hSw; (try dsimp only at hSw); go_simp; try with_reducible rfl
          try simp only [Act.put, List.setIfInBounds_toArray, List.set_cons_zero, List.set_cons_succ]
          refine wpAnyH_ready (rs := [1]) (by kernel_rfl) (by simp) ?_
          refine AllReadyH.cons rfl (fun K hK => ?_) AllReadyH.nil
          go_simp
          go_at_call 22
          (with_reducible refine (refIsR_tt _ ro rq key m c' vo A' val cp gone ttl _ hs.out).mono ?_)
          rintro e w3 ⟨rfl, hch3⟩
          have hch23 : Hid (Chg [] wb w3) := ((by repeat' (first | (with_reducible assumption) | (with_reducible exact Chg.refl _ _) | (with_reducible refine Chg.alloc ?_ _) | (with_reducible refine Chg.drewN ?_ _) | (with_reducible refine Chg.drew ?_) | (with_reducible refine Chg.strW ?_ _ _) | (with_reducible refine Chg.t0 ?_ (by with_reducible assumption)))) : Chg [] wb w3)
          go_wp2_with (fail)
          refine hK.out _ _ ?_ (fun hHeld => ?_)
          · first | exact KK.out _ hch23.out | (dsimp only; exact KK.out _ hch23.out)
          clear hK K
          try simp only [Act.put, List.setIfInBounds_toArray, List.set_cons_zero, List.set_cons_succ]
          refine takeW (i := 2) (d := (some 39)) (v := ?_) rfl rfl (by kernel_rfl) (by kernel_rfl) (by kernel_rfl) (fun _ _ _ h => h) (by rfl) ?_ (by assumption) ?_
          rotate_left
          · intro w' hSw; (try dsimp only at hSw); go_simp; try with_reducible rfl
          try simp only [Act.put, List.setIfInBounds_toArray, List.set_cons_zero, List.set_cons_succ]
          refine takeW (i := 3) (d := (some 40)) (v := ?_) rfl rfl (by kernel_rfl) (by kernel_rfl) (by kernel_rfl) (fun _ _ _ h => h) (by rfl) ?_ (by assumption) ?_
          rotate_left
          · intro w' hSw; (try dsimp only at hSw); go_simp; try with_reducible rfl
          try simp only [Act.put, List.setIfInBounds_toArray, List.set_cons_zero, List.set_cons_succ]
          refine takeW (i := 4) (d := (some 41)) (v := ?_) rfl rfl (by kernel_rfl) (by kernel_rfl) (by kernel_rfl) (fun _ _ _ h => h) (by rfl) ?_ (by assumption) ?_
          rotate_left
          · intro w' hSw; (try dsimp only at hSw); go_simp; try with_reducible rfl
          try simp only [Act.put, List.setIfInBounds_toArray, List.set_cons_zero, List.set_cons_succ]
          refine takeW (i := 5) (d := (some 42)) (v := ?_) rfl rfl (by kernel_rfl) (by kernel_rfl) (by kernel_rfl) (fun _ _ _ h => h) (by rfl) ?_ (by assumption) ?_
          rotate_left
          · intro w' hSw; (try dsimp only at hSw); go_simp; try with_reducible rfl
          try simp only [Act.put, List.setIfInBounds_toArray, List.set_cons_zero, List.set_cons_succ]
          refine takeW (i := 6) (d := (some 43)) (v := ?_) rfl rfl (by kernel_rfl) (by kernel_rfl) (by kernel_rfl) (fun _ _ _ h => h) (by rfl) ?_ (by assumption) ?_
          rotate_left
          · intro w' hSw; (try dsimp only at hSw); go_simp; try with_reducible rfl
          try simp only [Act.put, List.setIfInBounds_toArray, List.set_cons_zero, List.set_cons_succ]
          refine takeW (i := 7) (d := (some 44)) (v := ?_) rfl rfl (by kernel_rfl) (by kernel_rfl) (by kernel_rfl) (fun _ _ _ h => h) (by rfl) ?_ (by assumption) ?_
          rotate_left
          · intro w' hSw; (try dsimp only at hSw); go_simp; try with_reducible rfl
          try simp only [Act.put, List.setIfInBounds_toArray, List.set_cons_zero, List.set_cons_succ]
          refine takeW (i := 8) (d := (some 45)) (v := ?_) rfl rfl (by kernel_rfl) (by kernel_rfl) (by kernel_rfl) (fun _ _ _ h => h) (by rfl) ?_ (by assumption) ?_
          rotate_left
          · intro w' hSw; (try dsimp only at hSw); go_simp; try with_reducible rfl
          try simp only [Act.put, List.setIfInBounds_toArray, List.set_cons_zero, List.set_cons_succ]
          refine takeW (i := 9) (d := (some 46)) (v := ?_) rfl rfl (by kernel_rfl) (by kernel_rfl) (by kernel_rfl) (fun _ _ _ h => h) (by rfl) ?_ (by assumption) ?_
          rotate_left
          · intro w' hSw; (try dsimp only at hSw); go_simp; try with_reducible rfl
          try simp only [Act.put, List.setIfInBounds_toArray, List.set_cons_zero, List.set_cons_succ]
          refine takeW (i := 10) (d := (some 47)) (v := ?_) rfl rfl (by kernel_rfl) (by kernel_rfl) (by kernel_rfl) (fun _ _ _ h => h) (by rfl) ?_ (by assumption) ?_
          rotate_left
          · intro w' hSw; (try dsimp only at hSw); go_simp; try with_reducible rfl
          try simp only [Act.put, List.setIfInBounds_toArray, List.set_cons_zero, List.set_cons_succ]
          refine takeW (i := 11) (d := (some 48)) (v := ?_) rfl rfl (by kernel_rfl) (by kernel_rfl) (by kernel_rfl) (fun _ _ _ h => h) (by rfl) ?_ (by assumption) ?_
          rotate_left
          · intro w' hSw; (try dsimp only at hSw); go_simp; try with_reducible rfl
          try simp only [Act.put, List.setIfInBounds_toArray, List.set_cons_zero, List.set_cons_succ]
          refine takeW (i := 12) (d := (some 49)) (v := ?_) rfl rfl (by kernel_rfl) (by kernel_rfl) (by kernel_rfl) (fun _ _ _ h => h) (by rfl) ?_ (by assumption) ?_
          rotate_left
          · intro w' hSw; (try dsimp only at hSw); go_simp; try with_reducible rfl
          try simp only [Act.put, List.setIfInBounds_toArray, List.set_cons_zero, List.set_cons_succ]
          refine takeW (i := 13) (d := (some 50)) (v := ?_) rfl rfl (by kernel_rfl) (by kernel_rfl) (by kernel_rfl) (fun _ _ _ h => h) (by rfl) ?_ (by assumption) ?_
          rotate_left
          · intro w' hSw; (try dsimp only at hSw); go_simp; try with_reducible rfl
          try simp only [Act.put, List.setIfInBounds_toArray, List.set_cons_zero, List.set_cons_succ]
          refine takeU (i := 14) (d := (some 51)) rfl rfl (by kernel_rfl) (by kernel_rfl) (by kernel_rfl) (fun _ _ _ h => h) (by rfl) (by assumption) ?_
          try simp only [Act.put, List.setIfInBounds_toArray, List.set_cons_zero, List.set_cons_succ]
          refine takeU (i := 15) (d := (some 52)) rfl rfl (by kernel_rfl) (by kernel_rfl) (by kernel_rfl) (fun _ _ _ h => h) (by rfl) (by assumption) ?_
          try simp only [Act.put, List.setIfInBounds_toArray, List.set_cons_zero, List.set_cons_succ]
          refine takeU (i := 16) (d := (some 53)) rfl rfl (by kernel_rfl) (by kernel_rfl) (by kernel_rfl) (fun _ _ _ h => h) (by rfl) (by assumption) ?_
          try simp only [Act.put, List.setIfInBounds_toArray, List.set_cons_zero, List.set_cons_succ]
          refine takeU (i := 17) (d := (some 54)) rfl rfl (by kernel_rfl) (by kernel_rfl) (by kernel_rfl) (fun _ _ _ h => h) (by rfl) (by assumption) ?_
          try simp only [Act.put, List.setIfInBounds_toArray, List.set_cons_zero, List.set_cons_succ]
          refine takeU (i := 18) (d := (some 55)) rfl rfl (by kernel_rfl) (by kernel_rfl) (by kernel_rfl) (fun _ _ _ h => h) (by rfl) (by assumption) ?_
          try simp only [Act.put, List.setIfInBounds_toArray, List.set_cons_zero, List.set_cons_succ]
          refine takeU (i := 19) (d := (some 56)) rfl rfl (by kernel_rfl) (by kernel_rfl) (by kernel_rfl) (fun _ _ _ h => h) (by rfl) (by assumption) ?_
          try simp only [Act.put, List.setIfInBounds_toArray, List.set_cons_zero, List.set_cons_succ]
          refine takeU (i := 20) (d := (some 57)) rfl rfl (by kernel_rfl) (by kernel_rfl) (by kernel_rfl) (fun _ _ _ h => h) (by rfl) (by assumption) ?_
          try simp only [Act.put, List.setIfInBounds_toArray, List.set_cons_zero, List.set_cons_succ]
          refine takeU (i := 21) (d := (some 58)) rfl rfl (by kernel_rfl) (by kernel_rfl) (by kernel_rfl) (fun _ _ _ h => h) (by rfl) (by assumption) ?_
          try simp only [Act.put, List.setIfInBounds_toArray, List.set_cons_zero, List.set_cons_succ]
          refine takeU (i := 22) (d := (some 59)) rfl rfl (by kernel_rfl) (by kernel_rfl) (by kernel_rfl) (fun _ _ _ h => h) (by rfl) (by assumption) ?_
          try simp only [Act.put, List.setIfInBounds_toArray, List.set_cons_zero, List.set_cons_succ]
          refine takeU (i := 23) (d := (some 60)) rfl rfl (by kernel_rfl) (by kernel_rfl) (by kernel_rfl) (fun _ _ _ h => h) (by rfl) (by assumption) ?_
          try simp only [Act.put, List.setIfInBounds_toArray, List.set_cons_zero, List.set_cons_succ]
          refine takeU (i := 24) (d := (some 61)) rfl rfl (by kernel_rfl) (by kernel_rfl) (by kernel_rfl) (fun _ _ _ h => h) (by rfl) (by assumption) ?_
          try simp only [Act.put, List.setIfInBounds_toArray, List.set_cons_zero, List.set_cons_succ]
          refine takeW (i := 25) (d := (some 62)) (v := ?_) rfl rfl (by kernel_rfl) (by kernel_rfl) (by kernel_rfl) (fun _ _ _ h => h) (by rfl) ?_ (by assumption) ?_
          rotate_left
          · intro w' hSw; (try dsimp only at hSw); go_simp; try with_reducible rfl
          try simp only [Act.put, List.setIfInBounds_toArray, List.set_cons_zero, List.set_cons_succ]
          refine takeW (i := 26) (d := (some 63)) (v := ?_) rfl rfl (by kernel_rfl) (by kernel_rfl) (by kernel_rfl) (fun _ _ _ h => h) (by rfl) ?_ (by assumption) ?_
          rotate_left
          · intro w' hSw; (try dsimp only at hSw); go_simp; try with_reducible rfl
          try simp only [Act.put, List.setIfInBounds_toArray, List.set_cons_zero, List.set_cons_succ]
          refine wpAnyH_done (by kernel_rfl) ?_ _
          go_wp2_with (fail)
          go_roundw
          case rel =>
            exact ⟨_, by omega, by go_num, HY.out, a2.keep hch23.out (by simp), hcb.trans hch23.out (by simp), rd2.keep0 hch23.out⟩
          case measure => simp [intOf]; omega
        obtain ⟨k1, rfl⟩ : ∃ k1, k = k1 + 1 := ⟨k - 1, by omega⟩
        have hpq : q + (k1 : Int) ≤ 1099511627776 := by simpa using HPq.out hk0
        have KP : Hid (∀ w', Chg [] wb w' → w'.cell? ⟨g, 0, none⟩ = some (.int .i64 ro) ∧ w'.cell? ⟨g, 1, none⟩ = some (.int .i64 rq) ∧ w'.cell? ⟨g, 2, none⟩ = some (.string ⟨key.toArray⟩) ∧ w'.cell? ⟨g, 3, none⟩ = some (.int .i64 m) ∧ w'.cell? ⟨g, 4, none⟩ = some (.int .i64 c') ∧ w'.cell? ⟨g, 5, none⟩ = some (.int .i64 vo) ∧ w'.cell? ⟨g, 6, none⟩ = some (.slice A' val.length cp) ∧ w'.cell? ⟨g, 7, none⟩ = some (.bool gone) ∧ w'.cell? ⟨g, 8, none⟩ = some (.int .i64 ttl) ∧ w'.cell? ⟨w.heap.size, 1, none⟩ = some (.int .i64 o) ∧ w'.cell? ⟨w.heap.size, 7, none⟩ = some (.slice (some ad) ls.length c) ∧ w'.cell? ⟨(ad.add (k1 * 9)).block, (ad.add (k1 * 9)).off + 1, none⟩ = some (.int .i64 (q + (k1 : Int)))) := fun w' hc => by
          obtain ⟨z0, z1, z2, z3, z4, z5, z6, z7, z8, w1, w7⟩ := KK.out w' hc
          exact ⟨z0, z1, z2, z3, z4, z5, z6, z7, z8, w1, w7, by simpa using HPb.out w' hc hk0⟩
        have hkb : decide ((0 : Int) < ((k1 + 1 : Nat) : Int)) = true := decide_eq_true (by omega)
        have hsub : IntKind.i64.wrap (((k1 + 1 : Nat) : Int) - 1) = (k1 : Int) := by rw [show (((k1 + 1 : Nat) : Int) - 1) = (k1 : Int) by omega]; exact IntWalk.i64_in _ (by omega)
        have hsub2 : (((k1 + 1 : Nat) : Int) - 1) = (k1 : Int) := by omega
        have hadd : IntKind.i64.wrap (q + (k1 : Int) + 1) = q + (k1 : Int) + 1 := IntWalk.i64_in _ (by omega)
        have hwk : IntKind.i64.wrap (k1 : Int) = (k1 : Int) := IntWalk.i64_in _ (by omega)
        have hk1i : (k1 : Int) < (ls.length : Int) := by omega
        have hk10 : (0 : Int) ≤ (k1 : Int) := by omega
        by_cases hq : rq = q + (k1 : Int) + 1
        · have hqb : ((rq : Int) != q + (k1 : Int) + 1) = false := by rw [hq]; simp
          have HY := Lib.hid (HYes.out rfl Ho.out (by rw [hq]; push_cast; omega))
          have Hq := Lib.hid hq
          clear HNo HYes HPb HPq HQ0 hq KK
          refine wp_region_held_drew (S := fun w' => w'.cell? ⟨g, 0, none⟩ = some (.int .i64 ro) ∧ w'.cell? ⟨g, 1, none⟩ = some (.int .i64 rq) ∧ w'.cell? ⟨g, 2, none⟩ = some (.string ⟨key.toArray⟩) ∧ w'.cell? ⟨g, 3, none⟩ = some (.int .i64 m) ∧ w'.cell? ⟨g, 4, none⟩ = some (.int .i64 c') ∧ w'.cell? ⟨g, 5, none⟩ = some (.int .i64 vo) ∧ w'.cell? ⟨g, 6, none⟩ = some (.slice A' val.length cp) ∧ w'.cell? ⟨g, 7, none⟩ = some (.bool gone) ∧ w'.cell? ⟨g, 8, none⟩ = some (.int .i64 ttl) ∧ w'.cell? ⟨w.heap.size, 1, none⟩ = some (.int .i64 o) ∧ w'.cell? ⟨w.heap.size, 7, none⟩ = some (.slice (some ad) ls.length c) ∧ w'.cell? ⟨(ad.add (k1 * 9)).block, (ad.add (k1 * 9)).off + 1, none⟩ = some (.int .i64 (q + (k1 : Int)))) (by kernel_rfl) ?_ (fun hHeld => ?_)
          · exact KP.out _ ((Chg.refl [] wb).drewN 1)
          refine takeW (i := 0) (d := (some 37)) (v := ?_) rfl rfl (by kernel_rfl) (by kernel_rfl) (by kernel_rfl) (fun _ _ _ h => h) (by rfl) ?_ (by assumption) ?_
          rotate_left
          · intro w' hSw; (try dsimp only at hSw); go_simp; try with_reducible rfl
          try simp only [Act.put, List.setIfInBounds_toArray, List.set_cons_zero, List.set_cons_succ]
          refine wpAnyH_ready (rs := [1]) (by kernel_rfl) (by simp) ?_
          refine AllReadyH.cons rfl (fun K hK => ?_) AllReadyH.nil
          go_simp
          go_at_call 22
          (with_reducible refine (refIsR_tt _ ro rq key m c' vo A' val cp gone ttl _ hs.out).mono ?_)
          rintro e w3 ⟨rfl, hch3⟩
          have hch23 : Hid (Chg [] wb w3) := ((by repeat' (first | (with_reducible assumption) | (with_reducible exact Chg.refl _ _) | (with_reducible refine Chg.alloc ?_ _) | (with_reducible refine Chg.drewN ?_ _) | (with_reducible refine Chg.drew ?_) | (with_reducible refine Chg.strW ?_ _ _) | (with_reducible refine Chg.t0 ?_ (by with_reducible assumption)))) : Chg [] wb w3)
          go_wp2_with (fail)
          refine hK.out _ _ ?_ (fun hHeld => ?_)
          · first | exact KP.out _ hch23.out | (dsimp only; exact KP.out _ hch23.out)
          clear hK K
          try simp only [Act.put, List.setIfInBounds_toArray, List.set_cons_zero, List.set_cons_succ]
          refine takeW (i := 2) (d := (some 39)) (v := ?_) rfl rfl (by kernel_rfl) (by kernel_rfl) (by kernel_rfl) (fun _ _ _ h => h) (by rfl) ?_ (by assumption) ?_
          rotate_left
          · intro w' hSw; (try dsimp only at hSw); go_simp; try with_reducible rfl
          try simp only [Act.put, List.setIfInBounds_toArray, List.set_cons_zero, List.set_cons_succ]
          refine takeW (i := 3) (d := (some 40)) (v := ?_) rfl rfl (by kernel_rfl) (by kernel_rfl) (by kernel_rfl) (fun _ _ _ h => h) (by rfl) ?_ (by assumption) ?_
          rotate_left
          · intro w' hSw; (try dsimp only at hSw); go_simp; try with_reducible rfl
          try simp only [Act.put, List.setIfInBounds_toArray, List.set_cons_zero, List.set_cons_succ]
          refine takeW (i := 4) (d := (some 41)) (v := ?_) rfl rfl (by kernel_rfl) (by kernel_rfl) (by kernel_rfl) (fun _ _ _ h => h) (by rfl) ?_ (by assumption) ?_
          rotate_left
          · intro w' hSw; (try dsimp only at hSw); go_simp; try with_reducible rfl
          try simp only [Act.put, List.setIfInBounds_toArray, List.set_cons_zero, List.set_cons_succ]
          refine takeW (i := 5) (d := (some 42)) (v := ?_) rfl rfl (by kernel_rfl) (by kernel_rfl) (by kernel_rfl) (fun _ _ _ h => h) (by rfl) ?_ (by assumption) ?_
          rotate_left
          · intro w' hSw; (try dsimp only at hSw); go_simp; try with_reducible rfl
          try simp only [Act.put, List.setIfInBounds_toArray, List.set_cons_zero, List.set_cons_succ]
          refine takeW (i := 6) (d := (some 43)) (v := ?_) rfl rfl (by kernel_rfl) (by kernel_rfl) (by kernel_rfl) (fun _ _ _ h => h) (by rfl) ?_ (by assumption) ?_
          rotate_left
          · intro w' hSw; (try dsimp only at hSw); go_simp; try with_reducible rfl
          try simp only [Act.put, List.setIfInBounds_toArray, List.set_cons_zero, List.set_cons_succ]
          refine takeW (i := 7) (d := (some 44)) (v := ?_) rfl rfl (by kernel_rfl) (by kernel_rfl) (by kernel_rfl) (fun _ _ _ h => h) (by rfl) ?_ (by assumption) ?_
          rotate_left
          · intro w' hSw; (try dsimp only at hSw); go_simp; try with_reducible rfl
          try simp only [Act.put, List.setIfInBounds_toArray, List.set_cons_zero, List.set_cons_succ]
          refine takeW (i := 8) (d := (some 45)) (v := ?_) rfl rfl (by kernel_rfl) (by kernel_rfl) (by kernel_rfl) (fun _ _ _ h => h) (by rfl) ?_ (by assumption) ?_
          rotate_left
          · intro w' hSw; (try dsimp only at hSw); go_simp; try with_reducible rfl
          try simp only [Act.put, List.setIfInBounds_toArray, List.set_cons_zero, List.set_cons_succ]
          refine takeW (i := 9) (d := (some 46)) (v := ?_) rfl rfl (by kernel_rfl) (by kernel_rfl) (by kernel_rfl) (fun _ _ _ h => h) (by rfl) ?_ (by assumption) ?_
          rotate_left
          · intro w' hSw; (try dsimp only at hSw); go_simp; try with_reducible rfl
          try simp only [Act.put, List.setIfInBounds_toArray, List.set_cons_zero, List.set_cons_succ]
          refine takeW (i := 10) (d := (some 47)) (v := ?_) rfl rfl (by kernel_rfl) (by kernel_rfl) (by kernel_rfl) (fun _ _ _ h => h) (by rfl) ?_ (by assumption) ?_
          rotate_left
          · intro w' hSw; (try dsimp only at hSw); go_simp; try with_reducible rfl
          try simp only [Act.put, List.setIfInBounds_toArray, List.set_cons_zero, List.set_cons_succ]
          refine takeW (i := 11) (d := (some 48)) (v := ?_) rfl rfl (by kernel_rfl) (by kernel_rfl) (by kernel_rfl) (fun _ _ _ h => h) (by rfl) ?_ (by assumption) ?_
          rotate_left
          · intro w' hSw; (try dsimp only at hSw); go_simp; try with_reducible rfl
          try simp only [Act.put, List.setIfInBounds_toArray, List.set_cons_zero, List.set_cons_succ]
          refine takeW (i := 12) (d := (some 49)) (v := ?_) rfl rfl (by kernel_rfl) (by kernel_rfl) (by kernel_rfl) (fun _ _ _ h => h) (by rfl) ?_ (by assumption) ?_
          rotate_left
          · intro w' hSw; (try dsimp only at hSw); go_simp; try with_reducible rfl
          try simp only [Act.put, List.setIfInBounds_toArray, List.set_cons_zero, List.set_cons_succ]
          refine takeW (i := 13) (d := (some 50)) (v := ?_) rfl rfl (by kernel_rfl) (by kernel_rfl) (by kernel_rfl) (fun _ _ _ h => h) (by rfl) ?_ (by assumption) ?_
          rotate_left
          · intro w' hSw; (try dsimp only at hSw); go_simp; try with_reducible rfl
          try simp only [Act.put, List.setIfInBounds_toArray, List.set_cons_zero, List.set_cons_succ]
          refine takeW (i := 14) (d := (some 51)) (v := ?_) rfl rfl (by kernel_rfl) (by kernel_rfl) (by kernel_rfl) (fun _ _ _ h => h) (by rfl) ?_ (by assumption) ?_
          rotate_left
          · intro w' hSw; (try dsimp only at hSw); go_simp; try with_reducible rfl
          try simp only [Act.put, List.setIfInBounds_toArray, List.set_cons_zero, List.set_cons_succ]
          refine takeW (i := 15) (d := (some 52)) (v := ?_) rfl rfl (by kernel_rfl) (by kernel_rfl) (by kernel_rfl) (fun _ _ _ h => h) (by rfl) ?_ (by assumption) ?_
          rotate_left
          · intro w' hSw; (try dsimp only at hSw); go_simp; try with_reducible rfl
          try simp only [Act.put, List.setIfInBounds_toArray, List.set_cons_zero, List.set_cons_succ]
          refine takeW (i := 16) (d := (some 53)) (v := ?_) rfl rfl (by kernel_rfl) (by kernel_rfl) (by kernel_rfl) (fun _ _ _ h => h) (by rfl) ?_ (by assumption) ?_
          rotate_left
          · intro w' hSw; (try dsimp only at hSw); go_simp; try with_reducible rfl
          try simp only [Act.put, List.setIfInBounds_toArray, List.set_cons_zero, List.set_cons_succ]
          refine takeW (i := 17) (d := (some 54)) (v := ?_) rfl rfl (by kernel_rfl) (by kernel_rfl) (by kernel_rfl) (fun _ _ _ h => h) (by rfl) ?_ (by assumption) ?_
          rotate_left
          · intro w' hSw; (try dsimp only at hSw); go_simp; try with_reducible rfl
          try simp only [Act.put, List.setIfInBounds_toArray, List.set_cons_zero, List.set_cons_succ]
          refine takeW (i := 18) (d := (some 55)) (v := ?_) rfl rfl (by kernel_rfl) (by kernel_rfl) (by kernel_rfl) (fun _ _ _ h => h) (by rfl) ?_ (by assumption) ?_
          rotate_left
          · intro w' hSw; (try dsimp only at hSw); go_simp; try with_reducible rfl
          try simp only [Act.put, List.setIfInBounds_toArray, List.set_cons_zero, List.set_cons_succ]
          refine takeW (i := 19) (d := (some 56)) (v := ?_) rfl rfl (by kernel_rfl) (by kernel_rfl) (by kernel_rfl) (fun _ _ _ h => h) (by rfl) ?_ (by assumption) ?_
          rotate_left
          · intro w' hSw; (try dsimp only at hSw); go_simp; try with_reducible rfl
          try simp only [Act.put, List.setIfInBounds_toArray, List.set_cons_zero, List.set_cons_succ]
          refine takeW (i := 20) (d := (some 57)) (v := ?_) rfl rfl (by kernel_rfl) (by kernel_rfl) (by kernel_rfl) (fun _ _ _ h => h) (by rfl) ?_ (by assumption) ?_
          rotate_left
          · intro w' hSw; (try dsimp only at hSw); go_simp; try with_reducible rfl
          try simp only [Act.put, List.setIfInBounds_toArray, List.set_cons_zero, List.set_cons_succ]
          refine takeW (i := 21) (d := (some 58)) (v := ?_) rfl rfl (by kernel_rfl) (by kernel_rfl) (by kernel_rfl) (fun _ _ _ h => h) (by rfl) ?_ (by assumption) ?_
          rotate_left
          · intro w' hSw; (try dsimp only at hSw); go_simp; try with_reducible rfl
          try simp only [Act.put, List.setIfInBounds_toArray, List.set_cons_zero, List.set_cons_succ]
          refine takeW (i := 22) (d := (some 59)) (v := ?_) rfl rfl (by kernel_rfl) (by kernel_rfl) (by kernel_rfl) (fun _ _ _ h => h) (by rfl) ?_ (by assumption) ?_
          rotate_left
          · intro w' hSw; (try dsimp only at hSw); go_simp; try with_reducible rfl
          try simp only [Act.put, List.setIfInBounds_toArray, List.set_cons_zero, List.set_cons_succ]
          refine takeW (i := 23) (d := (some 60)) (v := ?_) rfl rfl (by kernel_rfl) (by kernel_rfl) (by kernel_rfl) (fun _ _ _ h => h) (by rfl) ?_ (by assumption) ?_
          rotate_left
          · intro w' hSw; (try dsimp only at hSw); go_simp; try with_reducible rfl
          try simp only [Act.put, List.setIfInBounds_toArray, List.set_cons_zero, List.set_cons_succ]
          refine takeW (i := 24) (d := (some 61)) (v := ?_) rfl rfl (by kernel_rfl) (by kernel_rfl) (by kernel_rfl) (fun _ _ _ h => h) (by rfl) ?_ (by assumption) ?_
          rotate_left
          · intro w' hSw; (try dsimp only at hSw); go_simp; try with_reducible rfl
          try simp only [Act.put, List.setIfInBounds_toArray, List.set_cons_zero, List.set_cons_succ]
          refine takeW (i := 25) (d := (some 62)) (v := ?_) rfl rfl (by kernel_rfl) (by kernel_rfl) (by kernel_rfl) (fun _ _ _ h => h) (by rfl) ?_ (by assumption) ?_
          rotate_left
          · intro w' hSw; (try dsimp only at hSw); go_simp; try with_reducible rfl
          try simp only [Act.put, List.setIfInBounds_toArray, List.set_cons_zero, List.set_cons_succ]
          refine takeW (i := 26) (d := (some 63)) (v := ?_) rfl rfl (by kernel_rfl) (by kernel_rfl) (by kernel_rfl) (fun _ _ _ h => h) (by rfl) ?_ (by assumption) ?_
          rotate_left
          · intro w' hSw; (try dsimp only at hSw); go_simp; try with_reducible rfl
          try simp only [Act.put, List.setIfInBounds_toArray, List.set_cons_zero, List.set_cons_succ]
          refine wpAnyH_done (by kernel_rfl) ?_ _
          go_wp2_with (fail)
          go_roundw
          case rel =>
            exact ⟨_, by omega, by go_num, HY.out, a2.keep hch23.out (by simp), hcb.trans hch23.out (by simp), rd2.keep0 hch23.out⟩
          case measure => simp [intOf]; omega
        · have hqb : ((rq : Int) != q + (k1 : Int) + 1) = true := by rw [bne_iff_ne]; exact hq
          have HN := Lib.hid (HNo.out (.inr (.inr (by intro h; exact hq (by rw [h]; push_cast; omega)))))
          clear HNo HYes HPb HPq HQ0 hq KK
          refine wp_region_held_drew (S := fun w' => w'.cell? ⟨g, 0, none⟩ = some (.int .i64 ro) ∧ w'.cell? ⟨g, 1, none⟩ = some (.int .i64 rq) ∧ w'.cell? ⟨g, 2, none⟩ = some (.string ⟨key.toArray⟩) ∧ w'.cell? ⟨g, 3, none⟩ = some (.int .i64 m) ∧ w'.cell? ⟨g, 4, none⟩ = some (.int .i64 c') ∧ w'.cell? ⟨g, 5, none⟩ = some (.int .i64 vo) ∧ w'.cell? ⟨g, 6, none⟩ = some (.slice A' val.length cp) ∧ w'.cell? ⟨g, 7, none⟩ = some (.bool gone) ∧ w'.cell? ⟨g, 8, none⟩ = some (.int .i64 ttl) ∧ w'.cell? ⟨w.heap.size, 1, none⟩ = some (.int .i64 o) ∧ w'.cell? ⟨w.heap.size, 7, none⟩ = some (.slice (some ad) ls.length c) ∧ w'.cell? ⟨(ad.add (k1 * 9)).block, (ad.add (k1 * 9)).off + 1, none⟩ = some (.int .i64 (q + (k1 : Int)))) (by kernel_rfl) ?_ (fun hHeld => ?_)
          · exact KP.out _ ((Chg.refl [] wb).drewN 1)
          refine takeW (i := 0) (d := (some 37)) (v := ?_) rfl rfl (by kernel_rfl) (by kernel_rfl) (by kernel_rfl) (fun _ _ _ h => h) (by rfl) ?_ (by assumption) ?_
          rotate_left
          · intro w' hSw; (try dsimp only at hSw); go_simp; try with_reducible rfl
          try simp only [Act.put, List.setIfInBounds_toArray, List.set_cons_zero, List.set_cons_succ]
          refine wpAnyH_ready (rs := [1]) (by kernel_rfl) (by simp) ?_
          refine AllReadyH.cons rfl (fun K hK => ?_) AllReadyH.nil
          go_simp
          go_at_call 22
          (with_reducible refine (refIsR_tt _ ro rq key m c' vo A' val cp gone ttl _ hs.out).mono ?_)
          rintro e w3 ⟨rfl, hch3⟩
          have hch23 : Hid (Chg [] wb w3) := ((by repeat' (first | (with_reducible assumption) | (with_reducible exact Chg.refl _ _) | (with_reducible refine Chg.alloc ?_ _) | (with_reducible refine Chg.drewN ?_ _) | (with_reducible refine Chg.drew ?_) | (with_reducible refine Chg.strW ?_ _ _) | (with_reducible refine Chg.t0 ?_ (by with_reducible assumption)))) : Chg [] wb w3)
          go_wp2_with (fail)
          refine hK.out _ _ ?_ (fun hHeld => ?_)
          · first | exact KP.out _ hch23.out | (dsimp only; exact KP.out _ hch23.out)
          clear hK K
          try simp only [Act.put, List.setIfInBounds_toArray, List.set_cons_zero, List.set_cons_succ]
          refine takeW (i := 2) (d := (some 39)) (v := ?_) rfl rfl (by kernel_rfl) (by kernel_rfl) (by kernel_rfl) (fun _ _ _ h => h) (by rfl) ?_ (by assumption) ?_
          rotate_left
          · intro w' hSw; (try dsimp only at hSw); go_simp; try with_reducible rfl
          try simp only [Act.put, List.setIfInBounds_toArray, List.set_cons_zero, List.set_cons_succ]
          refine takeW (i := 3) (d := (some 40)) (v := ?_) rfl rfl (by kernel_rfl) (by kernel_rfl) (by kernel_rfl) (fun _ _ _ h => h) (by rfl) ?_ (by assumption) ?_
          rotate_left
          · intro w' hSw; (try dsimp only at hSw); go_simp; try with_reducible rfl
          try simp only [Act.put, List.setIfInBounds_toArray, List.set_cons_zero, List.set_cons_succ]
          refine takeW (i := 4) (d := (some 41)) (v := ?_) rfl rfl (by kernel_rfl) (by kernel_rfl) (by kernel_rfl) (fun _ _ _ h => h) (by rfl) ?_ (by assumption) ?_
          rotate_left
          · intro w' hSw; (try dsimp only at hSw); go_simp; try with_reducible rfl
          try simp only [Act.put, List.setIfInBounds_toArray, List.set_cons_zero, List.set_cons_succ]
          refine takeW (i := 5) (d := (some 42)) (v := ?_) rfl rfl (by kernel_rfl) (by kernel_rfl) (by kernel_rfl) (fun _ _ _ h => h) (by rfl) ?_ (by assumption) ?_
          rotate_left
          · intro w' hSw; (try dsimp only at hSw); go_simp; try with_reducible rfl
          try simp only [Act.put, List.setIfInBounds_toArray, List.set_cons_zero, List.set_cons_succ]
          refine takeW (i := 6) (d := (some 43)) (v := ?_) rfl rfl (by kernel_rfl) (by kernel_rfl) (by kernel_rfl) (fun _ _ _ h => h) (by rfl) ?_ (by assumption) ?_
          rotate_left
          · intro w' hSw; (try dsimp only at hSw); go_simp; try with_reducible rfl
          try simp only [Act.put, List.setIfInBounds_toArray, List.set_cons_zero, List.set_cons_succ]
          refine takeW (i := 7) (d := (some 44)) (v := ?_) rfl rfl (by kernel_rfl) (by kernel_rfl) (by kernel_rfl) (fun _ _ _ h => h) (by rfl) ?_ (by assumption) ?_
          rotate_left
          · intro w' hSw; (try dsimp only at hSw); go_simp; try with_reducible rfl
          try simp only [Act.put, List.setIfInBounds_toArray, List.set_cons_zero, List.set_cons_succ]
          refine takeW (i := 8) (d := (some 45)) (v := ?_) rfl rfl (by kernel_rfl) (by kernel_rfl) (by kernel_rfl) (fun _ _ _ h => h) (by rfl) ?_ (by assumption) ?_
          rotate_left
          · intro w' hSw; (try dsimp only at hSw); go_simp; try with_reducible rfl
          try simp only [Act.put, List.setIfInBounds_toArray, List.set_cons_zero, List.set_cons_succ]
          refine takeW (i := 9) (d := (some 46)) (v := ?_) rfl rfl (by kernel_rfl) (by kernel_rfl) (by kernel_rfl) (fun _ _ _ h => h) (by rfl) ?_ (by assumption) ?_
          rotate_left
          · intro w' hSw; (try dsimp only at hSw); go_simp; try with_reducible rfl
          try simp only [Act.put, List.setIfInBounds_toArray, List.set_cons_zero, List.set_cons_succ]
          refine takeW (i := 10) (d := (some 47)) (v := ?_) rfl rfl (by kernel_rfl) (by kernel_rfl) (by kernel_rfl) (fun _ _ _ h => h) (by rfl) ?_ (by assumption) ?_
          rotate_left
          · intro w' hSw; (try dsimp only at hSw); go_simp; try with_reducible rfl
          try simp only [Act.put, List.setIfInBounds_toArray, List.set_cons_zero, List.set_cons_succ]
          refine takeW (i := 11) (d := (some 48)) (v := ?_) rfl rfl (by kernel_rfl) (by kernel_rfl) (by kernel_rfl) (fun _ _ _ h => h) (by rfl) ?_ (by assumption) ?_
          rotate_left
          · intro w' hSw; (try dsimp only at hSw); go_simp; try with_reducible rfl
          try simp only [Act.put, List.setIfInBounds_toArray, List.set_cons_zero, List.set_cons_succ]
          refine takeW (i := 12) (d := (some 49)) (v := ?_) rfl rfl (by kernel_rfl) (by kernel_rfl) (by kernel_rfl) (fun _ _ _ h => h) (by rfl) ?_ (by assumption) ?_
          rotate_left
          · intro w' hSw; (try dsimp only at hSw); go_simp; try with_reducible rfl
          try simp only [Act.put, List.setIfInBounds_toArray, List.set_cons_zero, List.set_cons_succ]
          refine takeW (i := 13) (d := (some 50)) (v := ?_) rfl rfl (by kernel_rfl) (by kernel_rfl) (by kernel_rfl) (fun _ _ _ h => h) (by rfl) ?_ (by assumption) ?_
          rotate_left
          · intro w' hSw; (try dsimp only at hSw); go_simp; try with_reducible rfl
          try simp only [Act.put, List.setIfInBounds_toArray, List.set_cons_zero, List.set_cons_succ]
          refine takeW (i := 14) (d := (some 51)) (v := ?_) rfl rfl (by kernel_rfl) (by kernel_rfl) (by kernel_rfl) (fun _ _ _ h => h) (by rfl) ?_ (by assumption) ?_
          rotate_left
          · intro w' hSw; (try dsimp only at hSw); go_simp; try with_reducible rfl
          try simp only [Act.put, List.setIfInBounds_toArray, List.set_cons_zero, List.set_cons_succ]
          refine takeW (i := 15) (d := (some 52)) (v := ?_) rfl rfl (by kernel_rfl) (by kernel_rfl) (by kernel_rfl) (fun _ _ _ h => h) (by rfl) ?_ (by assumption) ?_
          rotate_left
          · intro w' hSw; (try dsimp only at hSw); go_simp; try with_reducible rfl
          try simp only [Act.put, List.setIfInBounds_toArray, List.set_cons_zero, List.set_cons_succ]
          refine takeW (i := 16) (d := (some 53)) (v := ?_) rfl rfl (by kernel_rfl) (by kernel_rfl) (by kernel_rfl) (fun _ _ _ h => h) (by rfl) ?_ (by assumption) ?_
          rotate_left
          · intro w' hSw; (try dsimp only at hSw); go_simp; try with_reducible rfl
          try simp only [Act.put, List.setIfInBounds_toArray, List.set_cons_zero, List.set_cons_succ]
          refine takeW (i := 17) (d := (some 54)) (v := ?_) rfl rfl (by kernel_rfl) (by kernel_rfl) (by kernel_rfl) (fun _ _ _ h => h) (by rfl) ?_ (by assumption) ?_
          rotate_left
          · intro w' hSw; (try dsimp only at hSw); go_simp; try with_reducible rfl
          try simp only [Act.put, List.setIfInBounds_toArray, List.set_cons_zero, List.set_cons_succ]
          refine takeW (i := 18) (d := (some 55)) (v := ?_) rfl rfl (by kernel_rfl) (by kernel_rfl) (by kernel_rfl) (fun _ _ _ h => h) (by rfl) ?_ (by assumption) ?_
          rotate_left
          · intro w' hSw; (try dsimp only at hSw); go_simp; try with_reducible rfl
          try simp only [Act.put, List.setIfInBounds_toArray, List.set_cons_zero, List.set_cons_succ]
          refine takeW (i := 19) (d := (some 56)) (v := ?_) rfl rfl (by kernel_rfl) (by kernel_rfl) (by kernel_rfl) (fun _ _ _ h => h) (by rfl) ?_ (by assumption) ?_
          rotate_left
          · intro w' hSw; (try dsimp only at hSw); go_simp; try with_reducible rfl
          try simp only [Act.put, List.setIfInBounds_toArray, List.set_cons_zero, List.set_cons_succ]
          refine takeW (i := 20) (d := (some 57)) (v := ?_) rfl rfl (by kernel_rfl) (by kernel_rfl) (by kernel_rfl) (fun _ _ _ h => h) (by rfl) ?_ (by assumption) ?_
          rotate_left
          · intro w' hSw; (try dsimp only at hSw); go_simp; try with_reducible rfl
          try simp only [Act.put, List.setIfInBounds_toArray, List.set_cons_zero, List.set_cons_succ]
          refine takeW (i := 21) (d := (some 58)) (v := ?_) rfl rfl (by kernel_rfl) (by kernel_rfl) (by kernel_rfl) (fun _ _ _ h => h) (by rfl) ?_ (by assumption) ?_
          rotate_left
          · intro w' hSw; (try dsimp only at hSw); go_simp; try with_reducible rfl
          try simp only [Act.put, List.setIfInBounds_toArray, List.set_cons_zero, List.set_cons_succ]
          refine takeW (i := 22) (d := (some 59)) (v := ?_) rfl rfl (by kernel_rfl) (by kernel_rfl) (by kernel_rfl) (fun _ _ _ h => h) (by rfl) ?_ (by assumption) ?_
          rotate_left
          · intro w' hSw; (try dsimp only at hSw); go_simp; try with_reducible rfl
          try simp only [Act.put, List.setIfInBounds_toArray, List.set_cons_zero, List.set_cons_succ]
          refine takeW (i := 23) (d := (some 60)) (v := ?_) rfl rfl (by kernel_rfl) (by kernel_rfl) (by kernel_rfl) (fun _ _ _ h => h) (by rfl) ?_ (by assumption) ?_
          rotate_left
          · intro w' hSw; (try dsimp only at hSw); go_simp; try with_reducible rfl
          try simp only [Act.put, List.setIfInBounds_toArray, List.set_cons_zero, List.set_cons_succ]
          refine takeW (i := 24) (d := (some 61)) (v := ?_) rfl rfl (by kernel_rfl) (by kernel_rfl) (by kernel_rfl) (fun _ _ _ h => h) (by rfl) ?_ (by assumption) ?_
          rotate_left
          · intro w' hSw; (try dsimp only at hSw); go_simp; try with_reducible rfl
          try simp only [Act.put, List.setIfInBounds_toArray, List.set_cons_zero, List.set_cons_succ]
          refine takeW (i := 25) (d := (some 62)) (v := ?_) rfl rfl (by kernel_rfl) (by kernel_rfl) (by kernel_rfl) (fun _ _ _ h => h) (by rfl) ?_ (by assumption) ?_
          rotate_left
          · intro w' hSw; (try dsimp only at hSw); go_simp; try with_reducible rfl
          try simp only [Act.put, List.setIfInBounds_toArray, List.set_cons_zero, List.set_cons_succ]
          refine takeW (i := 26) (d := (some 63)) (v := ?_) rfl rfl (by kernel_rfl) (by kernel_rfl) (by kernel_rfl) (fun _ _ _ h => h) (by rfl) ?_ (by assumption) ?_
          rotate_left
          · intro w' hSw; (try dsimp only at hSw); go_simp; try with_reducible rfl
          try simp only [Act.put, List.setIfInBounds_toArray, List.set_cons_zero, List.set_cons_succ]
          refine wpAnyH_done (by kernel_rfl) ?_ _
          go_wp2_with (fail)
          go_ret
          exact ⟨by rw [HN.out]; rfl, hcb.trans hch23.out (by simp)⟩
    · obtain rfl : k = ls.length := by omega
      have HG : Hid (goesW ⟨kd, o, q, sm, sc, fm, fc, ls.map RcV.r⟩ = true) := by
        refine HWW.out (goesL_iff.2 fun i hi => ?_)
        have h1 := HI.out i (by simpa using hi) (by simpa using hi)
        simpa using h1
      go_wp2_with (fail)
      go_ret
      exact ⟨by rw [HG.out]; rfl, hch⟩
end Go.Proofs.Ytdfkednggjelcaa
namespace Go.Proofs.Ytdfkednggjelcaa
open Go.RowKit
set_option linter.unusedVariables false

set_option maxRecDepth 100000 in
set_option maxHeartbeats 3200000 in
theorem refIsW_any (w : World) (kd o q sm sc fm fc : Int) (A : Option Addr) (n c : Nat) (ls : List RcV) (hn : ls.length = n) (hr : Rd w 9 A ls.length (cRc ls)) (hls : ls.length ≤ 1099511627776) :
    Calls Try.prog 49 #[.agg #[.int .i64 kd, .int .i64 o, .int .i64 q, .int .i64 sm, .int .i64 sc, .int .i64 fm, .int .i64 fc, .slice A n c]] w fun e w' =>
      e = .returned (.bool (isW ⟨kd, o, q, sm, sc, fm, fc, ls.map RcV.r⟩)) ∧ Chg [] w w' := by
  subst hn
  have HR := Lib.hid (hr.alloc (.cells #[.int .i64 kd, .int .i64 o, .int .i64 q, .int .i64 sm, .int .i64 sc, .int .i64 fm, .int .i64 fc, .slice A ls.length c] 59))
  clear hr
  have h0 := Chg.alloc (.refl [] w) (.cells #[.int .i64 kd, .int .i64 o, .int .i64 q, .int .i64 sm, .int .i64 sc, .int .i64 fm, .int .i64 fc, .slice A ls.length c] 59)
  have a0 := At.new w 59 #[.int .i64 kd, .int .i64 o, .int .i64 q, .int .i64 sm, .int .i64 sc, .int .i64 fm, .int .i64 fc, .slice A ls.length c]
  have hrs0 : Hid (ls.map RcV.r = [] ↔ ls.length = 0) := by unfold Hid; rw [List.map_eq_nil_iff, List.length_eq_zero_iff]
  by_cases g1 : o < 0
  · have HN : Hid (isW ⟨kd, o, q, sm, sc, fm, fc, ls.map RcV.r⟩ = false) := by unfold Hid isW headW; simp only [decide_eq_false (show ¬ 0 ≤ o by omega), Bool.false_and]
    go_enter Try.func49, Try.ntmps49
    go_wp2_with (fail)
    go_ret
    exact ⟨by rw [HN.out]; rfl, h0⟩
  by_cases g2 : 5 ≤ o
  · have HN : Hid (isW ⟨kd, o, q, sm, sc, fm, fc, ls.map RcV.r⟩ = false) := by unfold Hid isW headW; simp only [decide_eq_false (show ¬ o < 5 by omega), Bool.false_and, Bool.and_false]
    go_enter Try.func49, Try.ntmps49
    go_wp2_with (fail)
    go_ret
    exact ⟨by rw [HN.out]; rfl, h0⟩
  by_cases g3 : q < 0
  · have HN : Hid (isW ⟨kd, o, q, sm, sc, fm, fc, ls.map RcV.r⟩ = false) := by unfold Hid isW headW; simp only [decide_eq_false (show ¬ 0 ≤ q by omega), Bool.false_and, Bool.and_false]
    go_enter Try.func49, Try.ntmps49
    go_wp2_with (fail)
    go_ret
    exact ⟨by rw [HN.out]; rfl, h0⟩
  by_cases g4 : 1099511627776 < q
  · have HN : Hid (isW ⟨kd, o, q, sm, sc, fm, fc, ls.map RcV.r⟩ = false) := by unfold Hid isW headW; simp only [decide_eq_false (show ¬ q ≤ 1099511627776 by omega), Bool.false_and, Bool.and_false]
    go_enter Try.func49, Try.ntmps49
    go_wp2_with (fail)
    go_ret
    exact ⟨by rw [HN.out]; rfl, h0⟩
  have hh : Hid (headW ⟨kd, o, q, sm, sc, fm, fc, ls.map RcV.r⟩ = true) := by unfold Hid headW; simp only [decide_eq_true (show 0 ≤ o by omega), decide_eq_true (show o < 5 by omega), decide_eq_true (show 0 ≤ q by omega), decide_eq_true (show q ≤ 1099511627776 by omega), Bool.and_self]
  obtain ⟨nn, hnn⟩ : ∃ nn, Hid ((decide (sm = 0) && decide (sc = 0) && decide (fm = 0) && decide (fc = 0)) = nn) := ⟨_, rfl⟩
  have hIs : Hid (isW ⟨kd, o, q, sm, sc, fm, fc, ls.map RcV.r⟩ = if kd = 1 then nn && goesW ⟨kd, o, q, sm, sc, fm, fc, ls.map RcV.r⟩ else if kd = 2 then nn && decide (ls.map RcV.r = []) else if kd = 3 then isS sm sc && isS fm fc && decide (ls.map RcV.r = []) else false) := by
    unfold Hid isW; rw [hh.out, ← hnn.out]; rfl

  by_cases k3 : kd = 3
  · have hI3 : Hid (isW ⟨kd, o, q, sm, sc, fm, fc, ls.map RcV.r⟩ = (isS sm sc && isS fm fc && decide (ls.map RcV.r = []))) := by unfold Hid; rw [hIs.out, if_neg (by omega), if_neg (by omega), if_pos k3]
    subst k3
    clear hIs hnn hh
    obtain ⟨s1, hs1⟩ : ∃ s, Hid (isS sm sc = s) := ⟨_, rfl⟩
    obtain ⟨s2, hs2⟩ : ∃ s, Hid (isS fm fc = s) := ⟨_, rfl⟩
    obtain ⟨s3, hs3⟩ : ∃ s, Hid (decide (ls.map RcV.r = []) = s) := ⟨_, rfl⟩
    have hl3 : Hid (s3 = decide (ls.length = 0)) := by unfold Hid; rw [← hs3.out]; exact decide_eq_decide.2 hrs0.out
    have hI4 : Hid (isW ⟨3, o, q, sm, sc, fm, fc, ls.map RcV.r⟩ = (s1 && s2 && s3)) := by unfold Hid; rw [hI3.out, hs1.out, hs2.out, hs3.out]
    clear hI3 hs3 hrs0
    have fin : ∀ b : Bool, (s1 && s2 && s3) = b → ∀ w', Chg [] w w' → (Ending.returned (.bool b) = Ending.returned (.bool (isW ⟨3, o, q, sm, sc, fm, fc, ls.map RcV.r⟩)) ∧ Chg [] w w') := fun b hb w' hc => ⟨by rw [hI4.out, hb], hc⟩
    have Fin := Lib.hid fin
    clear fin hI4
    by_cases esm : sm = 0
    rotate_left
    · go_enter Try.func49, Try.ntmps49
      go_wp2_with (fail)
      refine (refIsS_any _ _ _).mono ?_
      rintro e w1 ⟨rfl, hch1⟩
      rw [hs1.out]
      have a1 := a0.keep hch1 (by simp)
      have c1 := h0.trans hch1 (by simp)
      have y5 := a1.cell 5
      have y6 := a1.cell 6
      have y7 := a1.cell 7
      simp only [List.getElem?_toArray, List.getElem?_cons_zero, List.getElem?_cons_succ] at y5 y6 y7
      cases s1
      · go_wp2_with (fail)
        go_ret
        exact Fin.out false rfl _ c1
      · go_wp2_with (fail)
        refine (refIsS_any _ _ _).mono ?_
        rintro e w2 ⟨rfl, hch2⟩
        rw [hs2.out]
        have a2 := a1.keep hch2 (by simp)
        have c2 := c1.trans hch2 (by simp)
        have z7 := a2.cell 7
        simp only [List.getElem?_toArray, List.getElem?_cons_zero, List.getElem?_cons_succ] at z7
        clear y5 y6 y7
        cases s2
        · go_wp2_with (fail)
          go_ret
          exact Fin.out false rfl _ c2
        · by_cases hl0 : ls.length = 0
          · have e3 := hl3.out
            rw [decide_eq_true hl0] at e3
            subst e3
            have hli : ((ls.length : Int) == 0) = true := by rw [hl0]; rfl
            have HL0 := Lib.hid hl0
            clear hl0
            go_wp2_with (fail)
            go_ret
            exact Fin.out true rfl _ c2
          · have e3 := hl3.out
            rw [decide_eq_false hl0] at e3
            subst e3
            have hli : ((ls.length : Int) == 0) = false := by rw [beq_eq_false_iff_ne]; omega
            have HL0 := Lib.hid hl0
            clear hl0
            go_wp2_with (fail)
            go_ret
            exact Fin.out false rfl _ c2
    subst esm
    by_cases esc : sc = 0
    rotate_left
    · go_enter Try.func49, Try.ntmps49
      go_wp2_with (fail)
      refine (refIsS_any _ _ _).mono ?_
      rintro e w1 ⟨rfl, hch1⟩
      rw [hs1.out]
      have a1 := a0.keep hch1 (by simp)
      have c1 := h0.trans hch1 (by simp)
      have y5 := a1.cell 5
      have y6 := a1.cell 6
      have y7 := a1.cell 7
      simp only [List.getElem?_toArray, List.getElem?_cons_zero, List.getElem?_cons_succ] at y5 y6 y7
      cases s1
      · go_wp2_with (fail)
        go_ret
        exact Fin.out false rfl _ c1
      · go_wp2_with (fail)
        refine (refIsS_any _ _ _).mono ?_
        rintro e w2 ⟨rfl, hch2⟩
        rw [hs2.out]
        have a2 := a1.keep hch2 (by simp)
        have c2 := c1.trans hch2 (by simp)
        have z7 := a2.cell 7
        simp only [List.getElem?_toArray, List.getElem?_cons_zero, List.getElem?_cons_succ] at z7
        clear y5 y6 y7
        cases s2
        · go_wp2_with (fail)
          go_ret
          exact Fin.out false rfl _ c2
        · by_cases hl0 : ls.length = 0
          · have e3 := hl3.out
            rw [decide_eq_true hl0] at e3
            subst e3
            have hli : ((ls.length : Int) == 0) = true := by rw [hl0]; rfl
            have HL0 := Lib.hid hl0
            clear hl0
            go_wp2_with (fail)
            go_ret
            exact Fin.out true rfl _ c2
          · have e3 := hl3.out
            rw [decide_eq_false hl0] at e3
            subst e3
            have hli : ((ls.length : Int) == 0) = false := by rw [beq_eq_false_iff_ne]; omega
            have HL0 := Lib.hid hl0
            clear hl0
            go_wp2_with (fail)
            go_ret
            exact Fin.out false rfl _ c2
    subst esc
    by_cases efm : fm = 0
    rotate_left
    · go_enter Try.func49, Try.ntmps49
      go_wp2_with (fail)
      refine (refIsS_any _ _ _).mono ?_
      rintro e w1 ⟨rfl, hch1⟩
      rw [hs1.out]
      have a1 := a0.keep hch1 (by simp)
      have c1 := h0.trans hch1 (by simp)
      have y5 := a1.cell 5
      have y6 := a1.cell 6
      have y7 := a1.cell 7
      simp only [List.getElem?_toArray, List.getElem?_cons_zero, List.getElem?_cons_succ] at y5 y6 y7
      cases s1
      · go_wp2_with (fail)
        go_ret
        exact Fin.out false rfl _ c1
      · go_wp2_with (fail)
        refine (refIsS_any _ _ _).mono ?_
        rintro e w2 ⟨rfl, hch2⟩
        rw [hs2.out]
        have a2 := a1.keep hch2 (by simp)
        have c2 := c1.trans hch2 (by simp)
        have z7 := a2.cell 7
        simp only [List.getElem?_toArray, List.getElem?_cons_zero, List.getElem?_cons_succ] at z7
        clear y5 y6 y7
        cases s2
        · go_wp2_with (fail)
          go_ret
          exact Fin.out false rfl _ c2
        · by_cases hl0 : ls.length = 0
          · have e3 := hl3.out
            rw [decide_eq_true hl0] at e3
            subst e3
            have hli : ((ls.length : Int) == 0) = true := by rw [hl0]; rfl
            have HL0 := Lib.hid hl0
            clear hl0
            go_wp2_with (fail)
            go_ret
            exact Fin.out true rfl _ c2
          · have e3 := hl3.out
            rw [decide_eq_false hl0] at e3
            subst e3
            have hli : ((ls.length : Int) == 0) = false := by rw [beq_eq_false_iff_ne]; omega
            have HL0 := Lib.hid hl0
            clear hl0
            go_wp2_with (fail)
            go_ret
            exact Fin.out false rfl _ c2
    subst efm
    by_cases efc : fc = 0
    rotate_left
    · go_enter Try.func49, Try.ntmps49
      go_wp2_with (fail)
      refine (refIsS_any _ _ _).mono ?_
      rintro e w1 ⟨rfl, hch1⟩
      rw [hs1.out]
      have a1 := a0.keep hch1 (by simp)
      have c1 := h0.trans hch1 (by simp)
      have y5 := a1.cell 5
      have y6 := a1.cell 6
      have y7 := a1.cell 7
      simp only [List.getElem?_toArray, List.getElem?_cons_zero, List.getElem?_cons_succ] at y5 y6 y7
      cases s1
      · go_wp2_with (fail)
        go_ret
        exact Fin.out false rfl _ c1
      · go_wp2_with (fail)
        refine (refIsS_any _ _ _).mono ?_
        rintro e w2 ⟨rfl, hch2⟩
        rw [hs2.out]
        have a2 := a1.keep hch2 (by simp)
        have c2 := c1.trans hch2 (by simp)
        have z7 := a2.cell 7
        simp only [List.getElem?_toArray, List.getElem?_cons_zero, List.getElem?_cons_succ] at z7
        clear y5 y6 y7
        cases s2
        · go_wp2_with (fail)
          go_ret
          exact Fin.out false rfl _ c2
        · by_cases hl0 : ls.length = 0
          · have e3 := hl3.out
            rw [decide_eq_true hl0] at e3
            subst e3
            have hli : ((ls.length : Int) == 0) = true := by rw [hl0]; rfl
            have HL0 := Lib.hid hl0
            clear hl0
            go_wp2_with (fail)
            go_ret
            exact Fin.out true rfl _ c2
          · have e3 := hl3.out
            rw [decide_eq_false hl0] at e3
            subst e3
            have hli : ((ls.length : Int) == 0) = false := by rw [beq_eq_false_iff_ne]; omega
            have HL0 := Lib.hid hl0
            clear hl0
            go_wp2_with (fail)
            go_ret
            exact Fin.out false rfl _ c2
    subst efc
    · go_enter Try.func49, Try.ntmps49
      go_wp2_with (fail)
      refine (refIsS_any _ _ _).mono ?_
      rintro e w1 ⟨rfl, hch1⟩
      rw [hs1.out]
      have a1 := a0.keep hch1 (by simp)
      have c1 := h0.trans hch1 (by simp)
      have y5 := a1.cell 5
      have y6 := a1.cell 6
      have y7 := a1.cell 7
      simp only [List.getElem?_toArray, List.getElem?_cons_zero, List.getElem?_cons_succ] at y5 y6 y7
      cases s1
      · go_wp2_with (fail)
        go_ret
        exact Fin.out false rfl _ c1
      · go_wp2_with (fail)
        refine (refIsS_any _ _ _).mono ?_
        rintro e w2 ⟨rfl, hch2⟩
        rw [hs2.out]
        have a2 := a1.keep hch2 (by simp)
        have c2 := c1.trans hch2 (by simp)
        have z7 := a2.cell 7
        simp only [List.getElem?_toArray, List.getElem?_cons_zero, List.getElem?_cons_succ] at z7
        clear y5 y6 y7
        cases s2
        · go_wp2_with (fail)
          go_ret
          exact Fin.out false rfl _ c2
        · by_cases hl0 : ls.length = 0
          · have e3 := hl3.out
            rw [decide_eq_true hl0] at e3
            subst e3
            have hli : ((ls.length : Int) == 0) = true := by rw [hl0]; rfl
            have HL0 := Lib.hid hl0
            clear hl0
            go_wp2_with (fail)
            go_ret
            exact Fin.out true rfl _ c2
          · have e3 := hl3.out
            rw [decide_eq_false hl0] at e3
            subst e3
            have hli : ((ls.length : Int) == 0) = false := by rw [beq_eq_false_iff_ne]; omega
            have HL0 := Lib.hid hl0
            clear hl0
            go_wp2_with (fail)
            go_ret
            exact Fin.out false rfl _ c2
  by_cases hz : sm = 0 ∧ sc = 0 ∧ fm = 0 ∧ fc = 0
  rotate_left
  · have HNN : nn = false := by rw [← hnn.out]; cases hb : (decide (sm = 0) && decide (sc = 0) && decide (fm = 0) && decide (fc = 0)) with | false => rfl | true => simp only [Bool.and_eq_true, decide_eq_true_eq] at hb; exact absurd ⟨hb.1.1.1, hb.1.1.2, hb.1.2, hb.2⟩ hz
    have HF : Hid (isW ⟨kd, o, q, sm, sc, fm, fc, ls.map RcV.r⟩ = false) := by
      unfold Hid; rw [hIs.out, HNN]; split
      · rfl
      · split
        · rfl
        · first | rfl | rw [if_neg k3]
    have hz1 : sm ≠ 0 ∨ (sm = 0 ∧ (sc ≠ 0 ∨ (sc = 0 ∧ (fm ≠ 0 ∨ (fm = 0 ∧ fc ≠ 0))))) := by omega
    clear hIs hnn hh HNN hz
    have hkk : kd = 1 ∨ kd = 2 ∨ (kd ≠ 1 ∧ kd ≠ 2) := by omega
    rcases hkk with rfl | rfl | ⟨hk1, hk2⟩ <;> rcases hz1 with hz1 | ⟨rfl, hz1 | ⟨rfl, hz1 | ⟨rfl, hz1⟩⟩⟩
    all_goals
      go_enter Try.func49, Try.ntmps49
      go_wp2_with (fail)
      go_ret
      exact ⟨by rw [HF.out]; rfl, h0⟩
  obtain ⟨rfl, rfl, rfl, rfl⟩ := hz
  have HNN : nn = true := by rw [← hnn.out]; rfl
  subst HNN
  clear hnn
  by_cases k1 : kd = 1
  · have HF : Hid (isW ⟨kd, o, q, 0, 0, 0, 0, ls.map RcV.r⟩ = goesW ⟨kd, o, q, 0, 0, 0, 0, ls.map RcV.r⟩) := by unfold Hid; rw [hIs.out, if_pos k1]; rfl
    subst k1
    clear hIs hh
    go_enter Try.func49, Try.ntmps49
    go_wp2_with (fail)
    refine (refRecs_any _ 1 o q 0 0 0 0 A _ c ls rfl HR.out hls (by omega) (by omega)).mono ?_
    rintro e w1 ⟨rfl, hch1⟩
    obtain ⟨s, hs⟩ : ∃ s, Hid (goesW ⟨1, o, q, 0, 0, 0, 0, ls.map RcV.r⟩ = s) := ⟨_, rfl⟩
    rw [hs.out] at HF ⊢
    go_wp2_with (fail)
    go_ret
    exact ⟨by rw [HF.out]; rfl, h0.trans hch1 (by simp)⟩
  by_cases k2 : kd = 2
  · have HF : Hid (isW ⟨kd, o, q, 0, 0, 0, 0, ls.map RcV.r⟩ = decide (ls.length = 0)) := by unfold Hid; rw [hIs.out, if_neg k1, if_pos k2, Bool.true_and]; exact decide_eq_decide.2 hrs0.out
    subst k2
    clear hIs hh k1 k3 hrs0
    by_cases hl0 : ls.length = 0
    · have HT : Hid (decide (ls.length = 0) = true) := decide_eq_true hl0
      have hli : ((ls.length : Int) == 0) = true := by rw [hl0]; rfl
      have HL0 := Lib.hid hl0
      clear hl0
      go_enter Try.func49, Try.ntmps49
      go_wp2_with (fail)
      go_ret
      exact ⟨by rw [HF.out, HT.out]; rfl, h0⟩
    · have HT : Hid (decide (ls.length = 0) = false) := decide_eq_false hl0
      have hli : ((ls.length : Int) == 0) = false := by rw [beq_eq_false_iff_ne]; omega
      have HL0 := Lib.hid hl0
      clear hl0
      go_enter Try.func49, Try.ntmps49
      go_wp2_with (fail)
      go_ret
      exact ⟨by rw [HF.out, HT.out]; rfl, h0⟩
  · have HF : Hid (isW ⟨kd, o, q, 0, 0, 0, 0, ls.map RcV.r⟩ = false) := by unfold Hid; rw [hIs.out, if_neg k1, if_neg k2, if_neg k3]
    clear hIs hh
    go_enter Try.func49, Try.ntmps49
    go_wp2_with (fail)
    go_ret
    exact ⟨by rw [HF.out]; rfl, h0⟩end Go.Proofs.Ytdfkednggjelcaa
