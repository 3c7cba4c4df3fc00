
/-
  stream's Take.
-/
import Derived.Test.YtdfkednggjelcaaStrA
import Derived.Test.YtdfkednggjelcaaWirA3
import Derived.IntWalk
namespace Go.Proofs.Ytdfkednggjelcaa
open Go.RowKit
set_option linter.unusedVariables false

theorem recIs_to (w : World) (o q : Int) (key : List UInt8) (m c vo : Int) (A : Option Addr) (val : List UInt8) (cp : Nat) (gone : Bool) (ttl : Int) (s : Bool) (hs : isR ⟨o, q, key, m, c, vo, val, gone, ttl⟩ = s) :
    Calls Try.prog 38 #[.agg #[.int .i64 o, .int .i64 q, .string ⟨key.toArray⟩, .int .i64 m, .int .i64 c, .int .i64 vo, .slice A val.length cp, .bool gone, .int .i64 ttl]] w fun e w' =>
      e = .returned (.bool s) ∧ Chg [] w w' := by
  subst hs
  exact recIs_any w o q key m c vo A val cp gone ttl

/-- Which records are taken. -/
def takeN (org ap : Int) : Nat → List Rc → List Rc
  | _, [] => []
  | n, r :: l => if isR r = true ∧ r.o = org ∧ r.q = ap + 1 + n then r :: takeN org ap (n + 1) l else if 0 < n then [] else takeN org ap n l
def TakePost (w : World) (l : List Rc) (e : Ending) (w' : World) : Prop := ∃ A c ls, e = .returned (.slice A ls.length c) ∧ Hid (ls.map RcV.r = l) ∧
  w'.ownsRow w.heap.size 51 9 (.slice A ls.length c) ls.length (cRc ls) ∧ Hid (∀ x ∈ ls, OwnV w' w.heap.size x) ∧ Chg [] w w'
theorem takeN_nil (org ap : Int) (n : Nat) : takeN org ap n [] = [] := rfl

set_option linter.unusedSimpArgs false
set_option maxRecDepth 100000 in
set_option maxHeartbeats 64000000 in
theorem take_any (w : World) (gi : Nat) (a org ap : Int) (hin : At w gi 84 (ISt.cells ⟨a, org, ap⟩)) (hap0 : 0 ≤ ap) (hap1 : ap ≤ 1099511627776) (A : Option Addr) (n c : Nat) (ls : List RcV) (hn : ls.length = n) (hr : Rd w 9 A ls.length (cRc ls)) (hrs : ∀ x ∈ ls, Rd w 1 x.A x.r.val.length (cB x.r.val)) (hls : ls.length ≤ 1000000) (hvl : ∀ x ∈ ls, x.r.val.length ≤ 140737488351232) :
    Calls Try.prog 14 #[.pointer (some ⟨gi, 0, none⟩), .slice A n c] w (TakePost w (takeN org ap 0 (ls.map RcV.r))) := by
  subst hn
  obtain ⟨i0, hi, hz0, hz1, hz2⟩ := info_parts info8
  obtain ⟨i1, hi1, hy0, hy1, hy2⟩ := info_parts info_rec
  have HR := Lib.hid hr
  have HRS := Lib.hid hrs
  have HVL := Lib.hid hvl
  clear hr hrs hvl
  have hgi0 : gi < w.heap.size := hin.lt
  go_enter Try.func14, Try.ntmps14
  go_wp2_with (fail)
  go_loopw [12, 5] (fun i s wr => ∃ (k : Nat) (A5 : Option Addr) (c5 : Nat) (out : List RcV), k ≤ ls.length ∧ out.length ≤ k ∧ i = .int .i64 k ∧ s = .slice A5 out.length c5 ∧ Hid (takeN org ap 0 (ls.map RcV.r) = out.map RcV.r ++ takeN org ap out.length ((ls.map RcV.r).drop k)) ∧
      wr.ownsRow w.heap.size 51 9 (.slice A5 out.length c5) out.length (cRc out) ∧ Hid (∀ x ∈ out, OwnV wr w.heap.size x) ∧ Hid (At wr gi 84 (ISt.cells ⟨a, org, ap⟩)) ∧ Chg [] w wr) (fun i _ _ => ls.length - (intOf i).toNat)
  case atStart => exact ⟨0, none, 0, [], Nat.zero_le _, Nat.le_refl _, rfl, rfl, by simp [Hid], own_none _ _ _ _, by simp [Hid], hin, Chg.refl _ _⟩
  case round =>
    clear hin
    obtain ⟨k, A5, c5, out, hk, hok, rfl, rfl, HT, own5, O5, HI0, hch⟩ := hrel
    by_cases hlt : k < ls.length
    · obtain ⟨ad, rfl, had, hc0, hc⟩ := (HR.out.keep0 hch).getR hlt
      have HT0 := HT.out
      rw [List.drop_eq_getElem_cons (by simpa using hlt), List.getElem_map] at HT0
      have HYes : Hid (isR ls[k].r = true ∧ ls[k].r.o = org ∧ ls[k].r.q = ap + 1 + out.length → takeN org ap 0 (ls.map RcV.r) = (out.map RcV.r ++ [ls[k].r]) ++ takeN org ap (out.length + 1) ((ls.map RcV.r).drop (k + 1))) := fun h => by
        rw [HT0, takeN, if_pos h]; simp
      have HNo0 : Hid (¬ (isR ls[k].r = true ∧ ls[k].r.o = org ∧ ls[k].r.q = ap + 1 + out.length) → 0 < out.length → out.map RcV.r = takeN org ap 0 (ls.map RcV.r)) := fun h h2 => by
        rw [HT0, takeN, if_neg h, if_pos h2]; simp
      have HNz0 : Hid (¬ (isR ls[k].r = true ∧ ls[k].r.o = org ∧ ls[k].r.q = ap + 1 + out.length) → ¬ 0 < out.length → takeN org ap 0 (ls.map RcV.r) = out.map RcV.r ++ takeN org ap out.length ((ls.map RcV.r).drop (k + 1))) := fun h h2 => by
        rw [HT0, takeN, if_neg h, if_neg h2]
      have HV : Hid (Rd w 1 ls[k].A ls[k].r.val.length (cB ls[k].r.val)) := HRS.out _ (List.getElem_mem hlt)
      have HVl : Hid (ls[k].r.val.length ≤ 140737488351232) := HVL.out _ (List.getElem_mem hlt)
      have hc1 := hc 1 _ (by omega) rfl
      have hc2 := hc 2 _ (by omega) rfl
      have hc3 := hc 3 _ (by omega) rfl
      have hc4 := hc 4 _ (by omega) rfl
      have hc5 := hc 5 _ (by omega) rfl
      have hc6 := hc 6 _ (by omega) rfl
      have hc7 := hc 7 _ (by omega) rfl
      have hc8 := hc 8 _ (by omega) rfl
      generalize ls[k] = r at *
      clear hc HT HT0
      obtain ⟨⟨ro, rq, key, m, c', vo, val, gone, ttl⟩, A', cp⟩ := r
      simp only at hc0 hc1 hc2 hc3 hc4 hc5 hc6 hc7 hc8 HYes HNo0 HNz0 HV HVl
      have hki : (k : Int) < (ls.length : Int) := by omega
      go_wp2_with (fail)
      have ga := At.new wr 51 #[.int .i64 ro, .int .i64 rq, .string ⟨key.toArray⟩, .int .i64 m, .int .i64 c', .int .i64 vo, .slice A' val.length cp, .bool gone, .int .i64 ttl]
      have ai := (HI0.out.al (.cells #[.int .i64 ro, .int .i64 rq, .string ⟨key.toArray⟩, .int .i64 m, .int .i64 c', .int .i64 vo, .slice A' val.length cp, .bool gone, .int .i64 ttl] 51))
      have hcb := hch.alloc (.cells #[.int .i64 ro, .int .i64 rq, .string ⟨key.toArray⟩, .int .i64 m, .int .i64 c', .int .i64 vo, .slice A' val.length cp, .bool gone, .int .i64 ttl] 51)
      have own5b := own_k0 own5 ((Chg.refl [] wr).alloc (.cells #[.int .i64 ro, .int .i64 rq, .string ⟨key.toArray⟩, .int .i64 m, .int .i64 c', .int .i64 vo, .slice A' val.length cp, .bool gone, .int .i64 ttl] 51))
      have O5b : Hid (∀ x ∈ out, OwnV (wr.alloc (.cells #[.int .i64 ro, .int .i64 rq, .string ⟨key.toArray⟩, .int .i64 m, .int .i64 c', .int .i64 vo, .slice A' val.length cp, .bool gone, .int .i64 ttl] 51)) w.heap.size x) := fun x hx => own_k0 (O5.out x hx) ((Chg.refl [] wr).alloc (.cells #[.int .i64 ro, .int .i64 rq, .string ⟨key.toArray⟩, .int .i64 m, .int .i64 c', .int .i64 vo, .slice A' val.length cp, .bool gone, .int .i64 ttl] 51))
      have hnb : ∀ k', (Value.slice A5 out.length c5).ownBlock = some k' → k' < wr.heap.size := fun k' h => own_lt own5 h
      have hnv : Hid (∀ x ∈ out, ∀ k', (Value.slice x.A x.r.val.length x.cp).ownBlock = some k' → k' < wr.heap.size) := fun x hx k' h => own_lt (O5.out x hx) h
      have HI : Hid (At (wr.alloc (.cells #[.int .i64 ro, .int .i64 rq, .string ⟨key.toArray⟩, .int .i64 m, .int .i64 c', .int .i64 vo, .slice A' val.length cp, .bool gone, .int .i64 ttl] 51)) gi 84 (ISt.cells ⟨a, org, ap⟩)) := ai
      have hgw0 : w.heap.size ≤ wr.heap.size := hch.size
      have hgig : gi < wr.heap.size := HI0.out.lt
      clear hc0 hc1 hc2 hc3 hc4 hc5 hc6 hc7 hc8 hch own5 O5 HI0
      generalize hgw : wr.heap.size = g at *
      generalize wr.alloc (.cells #[.int .i64 ro, .int .i64 rq, .string ⟨key.toArray⟩, .int .i64 m, .int .i64 c', .int .i64 vo, .slice A' val.length cp, .bool gone, .int .i64 ttl] 51) = wb at *
      have KK : Hid (∀ w', Chg [] wb w' → w'.cell? ⟨g, 0, none⟩ = some (.int .i64 ro) ∧ w'.cell? ⟨g, 1, none⟩ = some (.int .i64 rq) ∧ w'.cell? ⟨g, 2, none⟩ = some (.string ⟨key.toArray⟩) ∧ w'.cell? ⟨g, 3, none⟩ = some (.int .i64 m) ∧ w'.cell? ⟨g, 4, none⟩ = some (.int .i64 c') ∧ w'.cell? ⟨g, 5, none⟩ = some (.int .i64 vo) ∧ w'.cell? ⟨g, 6, none⟩ = some (.slice A' val.length cp) ∧ w'.cell? ⟨g, 7, none⟩ = some (.bool gone) ∧ w'.cell? ⟨g, 8, none⟩ = some (.int .i64 ttl) ∧ w'.cell? ⟨gi, 1, none⟩ = some (.int .i64 org) ∧ w'.cell? ⟨gi, 2, none⟩ = some (.int .i64 ap)) := fun w' hc => ⟨(ga.keep hc (by simp)).cell 0, (ga.keep hc (by simp)).cell 1, (ga.keep hc (by simp)).cell 2, (ga.keep hc (by simp)).cell 3, (ga.keep hc (by simp)).cell 4, (ga.keep hc (by simp)).cell 5, (ga.keep hc (by simp)).cell 6, (ga.keep hc (by simp)).cell 7, (ga.keep hc (by simp)).cell 8, (ai.keep hc (by simp)).cell 1, (ai.keep hc (by simp)).cell 2⟩
      obtain ⟨s, hs⟩ : ∃ s, Hid (isR ⟨ro, rq, key, m, c', vo, val, gone, ttl⟩ = s) := ⟨_, rfl⟩
      rw [hs.out] at HYes HNo0 HNz0
      have hw1 : IntKind.i64.wrap (ap + 1) = ap + 1 := IntWalk.i64_in _ (by omega)
      have hw2 : IntKind.i64.wrap (ap + 1 + (out.length : Int)) = ap + 1 + (out.length : Int) := IntWalk.i64_in _ (by omega)
      cases s
      · have HNo := Lib.hid (fun h2 => HNo0.out (by simp) h2)
        have HNz := Lib.hid (fun h2 => HNz0.out (by simp) h2)
        clear HNo0 HNz0 HYes
        refine wp_region_held_drew (S := fun w' => w'.cell? ⟨g, 0, none⟩ = some (.int .i64 ro) ∧ w'.cell? ⟨g, 1, none⟩ = some (.int .i64 rq) ∧ w'.cell? ⟨g, 2, none⟩ = some (.string ⟨key.toArray⟩) ∧ w'.cell? ⟨g, 3, none⟩ = some (.int .i64 m) ∧ w'.cell? ⟨g, 4, none⟩ = some (.int .i64 c') ∧ w'.cell? ⟨g, 5, none⟩ = some (.int .i64 vo) ∧ w'.cell? ⟨g, 6, none⟩ = some (.slice A' val.length cp) ∧ w'.cell? ⟨g, 7, none⟩ = some (.bool gone) ∧ w'.cell? ⟨g, 8, none⟩ = some (.int .i64 ttl) ∧ w'.cell? ⟨gi, 1, none⟩ = some (.int .i64 org) ∧ w'.cell? ⟨gi, 2, none⟩ = some (.int .i64 ap)) (by kernel_rfl) ?_ (fun hHeld => ?_)
        · exact KK.out _ ((Chg.refl [] wb).drewN 1)
        refine takeW (i := 0) (d := (some 16)) (v := ?_) rfl rfl (by kernel_rfl) (by kernel_rfl) (by kernel_rfl) (fun _ _ _ h => h) (by rfl) ?_ (by assumption) ?_
        rotate_left
        · intro w' hSw; (try dsimp only at hSw); go_simp; try with_reducible rfl
        try simp only [Act.put, List.setIfInBounds_toArray, List.set_cons_zero, List.set_cons_succ]
        refine wpAnyH_ready (rs := [1]) (by kernel_rfl) (by simp) ?_
        refine AllReadyH.cons rfl (fun K hK => ?_) AllReadyH.nil
        go_simp
        go_at_call 38
        (with_reducible refine (recIs_to _ ro rq key m c' vo A' val cp gone ttl _ hs.out).mono ?_)
        rintro e w3 ⟨rfl, hch3⟩
        have hch23 : Hid (Chg [] wb w3) := ((by repeat' (first | (with_reducible assumption) | (with_reducible exact Chg.refl _ _) | (with_reducible refine Chg.alloc ?_ _) | (with_reducible refine Chg.drewN ?_ _) | (with_reducible refine Chg.drew ?_) | (with_reducible refine Chg.strW ?_ _ _) | (with_reducible refine Chg.t0 ?_ (by with_reducible assumption)))) : Chg [] wb w3)
        go_wp2_with (fail)
        refine hK.out _ _ ?_ (fun hHeld => ?_)
        · first | exact KK.out _ hch23.out | (dsimp only; exact KK.out _ hch23.out)
        clear hK K
        try simp only [Act.put, List.setIfInBounds_toArray, List.set_cons_zero, List.set_cons_succ]
        refine takeW (i := 2) (d := (some 18)) (v := ?_) rfl rfl (by kernel_rfl) (by kernel_rfl) (by kernel_rfl) (fun _ _ _ h => h) (by rfl) ?_ (by assumption) ?_
        rotate_left
        · intro w' hSw; (try dsimp only at hSw); go_simp; try with_reducible rfl
        try simp only [Act.put, List.setIfInBounds_toArray, List.set_cons_zero, List.set_cons_succ]
        refine takeU (i := 3) (d := (some 19)) rfl rfl (by kernel_rfl) (by kernel_rfl) (by kernel_rfl) (fun _ _ _ h => h) (by rfl) (by assumption) ?_
        try simp only [Act.put, List.setIfInBounds_toArray, List.set_cons_zero, List.set_cons_succ]
        refine takeU (i := 4) (d := (some 20)) rfl rfl (by kernel_rfl) (by kernel_rfl) (by kernel_rfl) (fun _ _ _ h => h) (by rfl) (by assumption) ?_
        try simp only [Act.put, List.setIfInBounds_toArray, List.set_cons_zero, List.set_cons_succ]
        refine takeU (i := 5) (d := (some 21)) rfl rfl (by kernel_rfl) (by kernel_rfl) (by kernel_rfl) (fun _ _ _ h => h) (by rfl) (by assumption) ?_
        try simp only [Act.put, List.setIfInBounds_toArray, List.set_cons_zero, List.set_cons_succ]
        refine takeU (i := 6) (d := (some 22)) rfl rfl (by kernel_rfl) (by kernel_rfl) (by kernel_rfl) (fun _ _ _ h => h) (by rfl) (by assumption) ?_
        try simp only [Act.put, List.setIfInBounds_toArray, List.set_cons_zero, List.set_cons_succ]
        refine takeU (i := 7) (d := (some 23)) rfl rfl (by kernel_rfl) (by kernel_rfl) (by kernel_rfl) (fun _ _ _ h => h) (by rfl) (by assumption) ?_
        try simp only [Act.put, List.setIfInBounds_toArray, List.set_cons_zero, List.set_cons_succ]
        refine takeU (i := 8) (d := (some 24)) rfl rfl (by kernel_rfl) (by kernel_rfl) (by kernel_rfl) (fun _ _ _ h => h) (by rfl) (by assumption) ?_
        try simp only [Act.put, List.setIfInBounds_toArray, List.set_cons_zero, List.set_cons_succ]
        refine takeU (i := 9) (d := (some 25)) rfl rfl (by kernel_rfl) (by kernel_rfl) (by kernel_rfl) (fun _ _ _ h => h) (by rfl) (by assumption) ?_
        try simp only [Act.put, List.setIfInBounds_toArray, List.set_cons_zero, List.set_cons_succ]
        refine takeW (i := 10) (d := (some 26)) (v := ?_) rfl rfl (by kernel_rfl) (by kernel_rfl) (by kernel_rfl) (fun _ _ _ h => h) (by rfl) ?_ (by assumption) ?_
        rotate_left
        · intro w' hSw; (try dsimp only at hSw); go_simp; try with_reducible rfl
        try simp only [Act.put, List.setIfInBounds_toArray, List.set_cons_zero, List.set_cons_succ]
        refine takeW (i := 11) (d := (some 27)) (v := ?_) rfl rfl (by kernel_rfl) (by kernel_rfl) (by kernel_rfl) (fun _ _ _ h => h) (by rfl) ?_ (by assumption) ?_
        rotate_left
        · intro w' hSw; (try dsimp only at hSw); go_simp; try with_reducible rfl
        try simp only [Act.put, List.setIfInBounds_toArray, List.set_cons_zero, List.set_cons_succ]
        refine takeU (i := 12) (d := (some 28)) rfl rfl (by kernel_rfl) (by kernel_rfl) (by kernel_rfl) (fun _ _ _ h => h) (by rfl) (by assumption) ?_
        try simp only [Act.put, List.setIfInBounds_toArray, List.set_cons_zero, List.set_cons_succ]
        refine takeU (i := 13) (d := (some 29)) rfl rfl (by kernel_rfl) (by kernel_rfl) (by kernel_rfl) (fun _ _ _ h => h) (by rfl) (by assumption) ?_
        try simp only [Act.put, List.setIfInBounds_toArray, List.set_cons_zero, List.set_cons_succ]
        refine takeU (i := 14) (d := (some 30)) rfl rfl (by kernel_rfl) (by kernel_rfl) (by kernel_rfl) (fun _ _ _ h => h) (by rfl) (by assumption) ?_
        try simp only [Act.put, List.setIfInBounds_toArray, List.set_cons_zero, List.set_cons_succ]
        refine takeU (i := 15) (d := (some 31)) rfl rfl (by kernel_rfl) (by kernel_rfl) (by kernel_rfl) (fun _ _ _ h => h) (by rfl) (by assumption) ?_
        try simp only [Act.put, List.setIfInBounds_toArray, List.set_cons_zero, List.set_cons_succ]
        refine takeU (i := 16) (d := (some 32)) rfl rfl (by kernel_rfl) (by kernel_rfl) (by kernel_rfl) (fun _ _ _ h => h) (by rfl) (by assumption) ?_
        try simp only [Act.put, List.setIfInBounds_toArray, List.set_cons_zero, List.set_cons_succ]
        refine takeU (i := 17) (d := (some 33)) rfl rfl (by kernel_rfl) (by kernel_rfl) (by kernel_rfl) (fun _ _ _ h => h) (by rfl) (by assumption) ?_
        try simp only [Act.put, List.setIfInBounds_toArray, List.set_cons_zero, List.set_cons_succ]
        refine takeU (i := 18) (d := (some 34)) rfl rfl (by kernel_rfl) (by kernel_rfl) (by kernel_rfl) (fun _ _ _ h => h) (by rfl) (by assumption) ?_
        try simp only [Act.put, List.setIfInBounds_toArray, List.set_cons_zero, List.set_cons_succ]
        refine takeU (i := 19) (d := (some 35)) rfl rfl (by kernel_rfl) (by kernel_rfl) (by kernel_rfl) (fun _ _ _ h => h) (by rfl) (by assumption) ?_
        try simp only [Act.put, List.setIfInBounds_toArray, List.set_cons_zero, List.set_cons_succ]
        refine takeU (i := 20) (d := (some 36)) rfl rfl (by kernel_rfl) (by kernel_rfl) (by kernel_rfl) (fun _ _ _ h => h) (by rfl) (by assumption) ?_
        try simp only [Act.put, List.setIfInBounds_toArray, List.set_cons_zero, List.set_cons_succ]
        refine takeU (i := 21) (d := (some 37)) rfl rfl (by kernel_rfl) (by kernel_rfl) (by kernel_rfl) (fun _ _ _ h => h) (by rfl) (by assumption) ?_
        try simp only [Act.put, List.setIfInBounds_toArray, List.set_cons_zero, List.set_cons_succ]
        refine takeU (i := 22) (d := (some 38)) rfl rfl (by kernel_rfl) (by kernel_rfl) (by kernel_rfl) (fun _ _ _ h => h) (by rfl) (by assumption) ?_
        try simp only [Act.put, List.setIfInBounds_toArray, List.set_cons_zero, List.set_cons_succ]
        refine takeW (i := 23) (d := (some 39)) (v := ?_) rfl rfl (by kernel_rfl) (by kernel_rfl) (by kernel_rfl) (fun _ _ _ h => h) (by rfl) ?_ (by assumption) ?_
        rotate_left
        · intro w' hSw; (try dsimp only at hSw); go_simp; try with_reducible rfl
        try simp only [Act.put, List.setIfInBounds_toArray, List.set_cons_zero, List.set_cons_succ]
        refine wpAnyH_done (by kernel_rfl) ?_ _
        have own5' := own_k0 own5b hch23.out
        have O5' : Hid (∀ x ∈ out, OwnV w3 w.heap.size x) := fun x hx => own_k0 (O5b.out x hx) hch23.out
        by_cases h0 : 0 < out.length
        · have HN0 := Lib.hid (HNo.out h0)
          clear HNo
          go_wp2_with (fail)
          go_ret
          exact ⟨A5, c5, out, rfl, HN0.out, own5', O5', hcb.trans hch23.out (by simp)⟩
        · have HN0 := Lib.hid (HNz.out h0)
          have h00 : out.length = 0 := by omega
          clear HNo HNz
          go_wp2_with (fail)
          go_roundw
          case rel => exact ⟨k + 1, A5, c5, out, by omega, by omega, by go_num, rfl, HN0, own5', O5', HI.out.keep hch23.out (by simp), hcb.trans hch23.out (by simp)⟩
          case measure => simp [intOf]; omega
      by_cases ho : ro = org
      rotate_left
      · have hob : (ro == org) = false := by rw [beq_eq_false_iff_ne]; exact ho
        have HNo := Lib.hid (fun h2 => HNo0.out (fun h => ho h.2.1) h2)
        have HNz := Lib.hid (fun h2 => HNz0.out (fun h => ho h.2.1) h2)
        clear HNo0 HNz0 HYes ho
        refine wp_region_held_drew (S := fun w' => w'.cell? ⟨g, 0, none⟩ = some (.int .i64 ro) ∧ w'.cell? ⟨g, 1, none⟩ = some (.int .i64 rq) ∧ w'.cell? ⟨g, 2, none⟩ = some (.string ⟨key.toArray⟩) ∧ w'.cell? ⟨g, 3, none⟩ = some (.int .i64 m) ∧ w'.cell? ⟨g, 4, none⟩ = some (.int .i64 c') ∧ w'.cell? ⟨g, 5, none⟩ = some (.int .i64 vo) ∧ w'.cell? ⟨g, 6, none⟩ = some (.slice A' val.length cp) ∧ w'.cell? ⟨g, 7, none⟩ = some (.bool gone) ∧ w'.cell? ⟨g, 8, none⟩ = some (.int .i64 ttl) ∧ w'.cell? ⟨gi, 1, none⟩ = some (.int .i64 org) ∧ w'.cell? ⟨gi, 2, none⟩ = some (.int .i64 ap)) (by kernel_rfl) ?_ (fun hHeld => ?_)
        · exact KK.out _ ((Chg.refl [] wb).drewN 1)
        refine takeW (i := 0) (d := (some 16)) (v := ?_) rfl rfl (by kernel_rfl) (by kernel_rfl) (by kernel_rfl) (fun _ _ _ h => h) (by rfl) ?_ (by assumption) ?_
        rotate_left
        · intro w' hSw; (try dsimp only at hSw); go_simp; try with_reducible rfl
        try simp only [Act.put, List.setIfInBounds_toArray, List.set_cons_zero, List.set_cons_succ]
        refine wpAnyH_ready (rs := [1]) (by kernel_rfl) (by simp) ?_
        refine AllReadyH.cons rfl (fun K hK => ?_) AllReadyH.nil
        go_simp
        go_at_call 38
        (with_reducible refine (recIs_to _ ro rq key m c' vo A' val cp gone ttl _ hs.out).mono ?_)
        rintro e w3 ⟨rfl, hch3⟩
        have hch23 : Hid (Chg [] wb w3) := ((by repeat' (first | (with_reducible assumption) | (with_reducible exact Chg.refl _ _) | (with_reducible refine Chg.alloc ?_ _) | (with_reducible refine Chg.drewN ?_ _) | (with_reducible refine Chg.drew ?_) | (with_reducible refine Chg.strW ?_ _ _) | (with_reducible refine Chg.t0 ?_ (by with_reducible assumption)))) : Chg [] wb w3)
        go_wp2_with (fail)
        refine hK.out _ _ ?_ (fun hHeld => ?_)
        · first | exact KK.out _ hch23.out | (dsimp only; exact KK.out _ hch23.out)
        clear hK K
        try simp only [Act.put, List.setIfInBounds_toArray, List.set_cons_zero, List.set_cons_succ]
        refine takeW (i := 2) (d := (some 18)) (v := ?_) rfl rfl (by kernel_rfl) (by kernel_rfl) (by kernel_rfl) (fun _ _ _ h => h) (by rfl) ?_ (by assumption) ?_
        rotate_left
        · intro w' hSw; (try dsimp only at hSw); go_simp; try with_reducible rfl
        try simp only [Act.put, List.setIfInBounds_toArray, List.set_cons_zero, List.set_cons_succ]
        refine takeW (i := 3) (d := (some 19)) (v := ?_) rfl rfl (by kernel_rfl) (by kernel_rfl) (by kernel_rfl) (fun _ _ _ h => h) (by rfl) ?_ (by assumption) ?_
        rotate_left
        · intro w' hSw; (try dsimp only at hSw); go_simp; try with_reducible rfl
        try simp only [Act.put, List.setIfInBounds_toArray, List.set_cons_zero, List.set_cons_succ]
        refine takeW (i := 4) (d := (some 20)) (v := ?_) rfl rfl (by kernel_rfl) (by kernel_rfl) (by kernel_rfl) (fun _ _ _ h => h) (by rfl) ?_ (by assumption) ?_
        rotate_left
        · intro w' hSw; (try dsimp only at hSw); go_simp; try with_reducible rfl
        try simp only [Act.put, List.setIfInBounds_toArray, List.set_cons_zero, List.set_cons_succ]
        refine takeW (i := 5) (d := (some 21)) (v := ?_) rfl rfl (by kernel_rfl) (by kernel_rfl) (by kernel_rfl) (fun _ _ _ h => h) (by rfl) ?_ (by assumption) ?_
        rotate_left
        · intro w' hSw; (try dsimp only at hSw); go_simp; try with_reducible rfl
        try simp only [Act.put, List.setIfInBounds_toArray, List.set_cons_zero, List.set_cons_succ]
        refine takeW (i := 6) (d := (some 22)) (v := ?_) rfl rfl (by kernel_rfl) (by kernel_rfl) (by kernel_rfl) (fun _ _ _ h => h) (by rfl) ?_ (by assumption) ?_
        rotate_left
        · intro w' hSw; (try dsimp only at hSw); go_simp; try with_reducible rfl
        try simp only [Act.put, List.setIfInBounds_toArray, List.set_cons_zero, List.set_cons_succ]
        refine takeW (i := 7) (d := (some 23)) (v := ?_) rfl rfl (by kernel_rfl) (by kernel_rfl) (by kernel_rfl) (fun _ _ _ h => h) (by rfl) ?_ (by assumption) ?_
        rotate_left
        · intro w' hSw; (try dsimp only at hSw); go_simp; try with_reducible rfl
        try simp only [Act.put, List.setIfInBounds_toArray, List.set_cons_zero, List.set_cons_succ]
        refine takeW (i := 8) (d := (some 24)) (v := ?_) rfl rfl (by kernel_rfl) (by kernel_rfl) (by kernel_rfl) (fun _ _ _ h => h) (by rfl) ?_ (by assumption) ?_
        rotate_left
        · intro w' hSw; (try dsimp only at hSw); go_simp; try with_reducible rfl
        try simp only [Act.put, List.setIfInBounds_toArray, List.set_cons_zero, List.set_cons_succ]
        refine takeW (i := 9) (d := (some 25)) (v := ?_) rfl rfl (by kernel_rfl) (by kernel_rfl) (by kernel_rfl) (fun _ _ _ h => h) (by rfl) ?_ (by assumption) ?_
        rotate_left
        · intro w' hSw; (try dsimp only at hSw); go_simp; try with_reducible rfl
        try simp only [Act.put, List.setIfInBounds_toArray, List.set_cons_zero, List.set_cons_succ]
        refine takeW (i := 10) (d := (some 26)) (v := ?_) rfl rfl (by kernel_rfl) (by kernel_rfl) (by kernel_rfl) (fun _ _ _ h => h) (by rfl) ?_ (by assumption) ?_
        rotate_left
        · intro w' hSw; (try dsimp only at hSw); go_simp; try with_reducible rfl
        try simp only [Act.put, List.setIfInBounds_toArray, List.set_cons_zero, List.set_cons_succ]
        refine takeW (i := 11) (d := (some 27)) (v := ?_) rfl rfl (by kernel_rfl) (by kernel_rfl) (by kernel_rfl) (fun _ _ _ h => h) (by rfl) ?_ (by assumption) ?_
        rotate_left
        · intro w' hSw; (try dsimp only at hSw); go_simp; try with_reducible rfl
        try simp only [Act.put, List.setIfInBounds_toArray, List.set_cons_zero, List.set_cons_succ]
        refine takeU (i := 12) (d := (some 28)) rfl rfl (by kernel_rfl) (by kernel_rfl) (by kernel_rfl) (fun _ _ _ h => h) (by rfl) (by assumption) ?_
        try simp only [Act.put, List.setIfInBounds_toArray, List.set_cons_zero, List.set_cons_succ]
        refine takeU (i := 13) (d := (some 29)) rfl rfl (by kernel_rfl) (by kernel_rfl) (by kernel_rfl) (fun _ _ _ h => h) (by rfl) (by assumption) ?_
        try simp only [Act.put, List.setIfInBounds_toArray, List.set_cons_zero, List.set_cons_succ]
        refine takeU (i := 14) (d := (some 30)) rfl rfl (by kernel_rfl) (by kernel_rfl) (by kernel_rfl) (fun _ _ _ h => h) (by rfl) (by assumption) ?_
        try simp only [Act.put, List.setIfInBounds_toArray, List.set_cons_zero, List.set_cons_succ]
        refine takeU (i := 15) (d := (some 31)) rfl rfl (by kernel_rfl) (by kernel_rfl) (by kernel_rfl) (fun _ _ _ h => h) (by rfl) (by assumption) ?_
        try simp only [Act.put, List.setIfInBounds_toArray, List.set_cons_zero, List.set_cons_succ]
        refine takeU (i := 16) (d := (some 32)) rfl rfl (by kernel_rfl) (by kernel_rfl) (by kernel_rfl) (fun _ _ _ h => h) (by rfl) (by assumption) ?_
        try simp only [Act.put, List.setIfInBounds_toArray, List.set_cons_zero, List.set_cons_succ]
        refine takeU (i := 17) (d := (some 33)) rfl rfl (by kernel_rfl) (by kernel_rfl) (by kernel_rfl) (fun _ _ _ h => h) (by rfl) (by assumption) ?_
        try simp only [Act.put, List.setIfInBounds_toArray, List.set_cons_zero, List.set_cons_succ]
        refine takeU (i := 18) (d := (some 34)) rfl rfl (by kernel_rfl) (by kernel_rfl) (by kernel_rfl) (fun _ _ _ h => h) (by rfl) (by assumption) ?_
        try simp only [Act.put, List.setIfInBounds_toArray, List.set_cons_zero, List.set_cons_succ]
        refine takeU (i := 19) (d := (some 35)) rfl rfl (by kernel_rfl) (by kernel_rfl) (by kernel_rfl) (fun _ _ _ h => h) (by rfl) (by assumption) ?_
        try simp only [Act.put, List.setIfInBounds_toArray, List.set_cons_zero, List.set_cons_succ]
        refine takeU (i := 20) (d := (some 36)) rfl rfl (by kernel_rfl) (by kernel_rfl) (by kernel_rfl) (fun _ _ _ h => h) (by rfl) (by assumption) ?_
        try simp only [Act.put, List.setIfInBounds_toArray, List.set_cons_zero, List.set_cons_succ]
        refine takeU (i := 21) (d := (some 37)) rfl rfl (by kernel_rfl) (by kernel_rfl) (by kernel_rfl) (fun _ _ _ h => h) (by rfl) (by assumption) ?_
        try simp only [Act.put, List.setIfInBounds_toArray, List.set_cons_zero, List.set_cons_succ]
        refine takeU (i := 22) (d := (some 38)) rfl rfl (by kernel_rfl) (by kernel_rfl) (by kernel_rfl) (fun _ _ _ h => h) (by rfl) (by assumption) ?_
        try simp only [Act.put, List.setIfInBounds_toArray, List.set_cons_zero, List.set_cons_succ]
        refine takeW (i := 23) (d := (some 39)) (v := ?_) rfl rfl (by kernel_rfl) (by kernel_rfl) (by kernel_rfl) (fun _ _ _ h => h) (by rfl) ?_ (by assumption) ?_
        rotate_left
        · intro w' hSw; (try dsimp only at hSw); go_simp; try with_reducible rfl
        try simp only [Act.put, List.setIfInBounds_toArray, List.set_cons_zero, List.set_cons_succ]
        refine wpAnyH_done (by kernel_rfl) ?_ _
        have own5' := own_k0 own5b hch23.out
        have O5' : Hid (∀ x ∈ out, OwnV w3 w.heap.size x) := fun x hx => own_k0 (O5b.out x hx) hch23.out
        by_cases h0 : 0 < out.length
        · have HN0 := Lib.hid (HNo.out h0)
          clear HNo
          go_wp2_with (fail)
          go_ret
          exact ⟨A5, c5, out, rfl, HN0.out, own5', O5', hcb.trans hch23.out (by simp)⟩
        · have HN0 := Lib.hid (HNz.out h0)
          have h00 : out.length = 0 := by omega
          clear HNo HNz
          go_wp2_with (fail)
          go_roundw
          case rel => exact ⟨k + 1, A5, c5, out, by omega, by omega, by go_num, rfl, HN0, own5', O5', HI.out.keep hch23.out (by simp), hcb.trans hch23.out (by simp)⟩
          case measure => simp [intOf]; omega
      have hob : (ro == org) = true := by rw [ho]; simp
      by_cases hq : rq = ap + 1 + (out.length : Int)
      rotate_left
      · have hqb : (rq == ap + 1 + (out.length : Int)) = false := by rw [beq_eq_false_iff_ne]; exact hq
        have HNo := Lib.hid (fun h2 => HNo0.out (fun h => hq h.2.2) h2)
        have HNz := Lib.hid (fun h2 => HNz0.out (fun h => hq h.2.2) h2)
        clear HNo0 HNz0 HYes ho hq
        refine wp_region_held_drew (S := fun w' => w'.cell? ⟨g, 0, none⟩ = some (.int .i64 ro) ∧ w'.cell? ⟨g, 1, none⟩ = some (.int .i64 rq) ∧ w'.cell? ⟨g, 2, none⟩ = some (.string ⟨key.toArray⟩) ∧ w'.cell? ⟨g, 3, none⟩ = some (.int .i64 m) ∧ w'.cell? ⟨g, 4, none⟩ = some (.int .i64 c') ∧ w'.cell? ⟨g, 5, none⟩ = some (.int .i64 vo) ∧ w'.cell? ⟨g, 6, none⟩ = some (.slice A' val.length cp) ∧ w'.cell? ⟨g, 7, none⟩ = some (.bool gone) ∧ w'.cell? ⟨g, 8, none⟩ = some (.int .i64 ttl) ∧ w'.cell? ⟨gi, 1, none⟩ = some (.int .i64 org) ∧ w'.cell? ⟨gi, 2, none⟩ = some (.int .i64 ap)) (by kernel_rfl) ?_ (fun hHeld => ?_)
        · exact KK.out _ ((Chg.refl [] wb).drewN 1)
        refine takeW (i := 0) (d := (some 16)) (v := ?_) rfl rfl (by kernel_rfl) (by kernel_rfl) (by kernel_rfl) (fun _ _ _ h => h) (by rfl) ?_ (by assumption) ?_
        rotate_left
        · intro w' hSw; (try dsimp only at hSw); go_simp; try with_reducible rfl
        try simp only [Act.put, List.setIfInBounds_toArray, List.set_cons_zero, List.set_cons_succ]
        refine wpAnyH_ready (rs := [1]) (by kernel_rfl) (by simp) ?_
        refine AllReadyH.cons rfl (fun K hK => ?_) AllReadyH.nil
        go_simp
        go_at_call 38
        (with_reducible refine (recIs_to _ ro rq key m c' vo A' val cp gone ttl _ hs.out).mono ?_)
        rintro e w3 ⟨rfl, hch3⟩
        have hch23 : Hid (Chg [] wb w3) := ((by repeat' (first | (with_reducible assumption) | (with_reducible exact Chg.refl _ _) | (with_reducible refine Chg.alloc ?_ _) | (with_reducible refine Chg.drewN ?_ _) | (with_reducible refine Chg.drew ?_) | (with_reducible refine Chg.strW ?_ _ _) | (with_reducible refine Chg.t0 ?_ (by with_reducible assumption)))) : Chg [] wb w3)
        go_wp2_with (fail)
        refine hK.out _ _ ?_ (fun hHeld => ?_)
        · first | exact KK.out _ hch23.out | (dsimp only; exact KK.out _ hch23.out)
        clear hK K
        try simp only [Act.put, List.setIfInBounds_toArray, List.set_cons_zero, List.set_cons_succ]
        refine takeW (i := 2) (d := (some 18)) (v := ?_) rfl rfl (by kernel_rfl) (by kernel_rfl) (by kernel_rfl) (fun _ _ _ h => h) (by rfl) ?_ (by assumption) ?_
        rotate_left
        · intro w' hSw; (try dsimp only at hSw); go_simp; try with_reducible rfl
        try simp only [Act.put, List.setIfInBounds_toArray, List.set_cons_zero, List.set_cons_succ]
        refine takeW (i := 3) (d := (some 19)) (v := ?_) rfl rfl (by kernel_rfl) (by kernel_rfl) (by kernel_rfl) (fun _ _ _ h => h) (by rfl) ?_ (by assumption) ?_
        rotate_left
        · intro w' hSw; (try dsimp only at hSw); go_simp; try with_reducible rfl
        try simp only [Act.put, List.setIfInBounds_toArray, List.set_cons_zero, List.set_cons_succ]
        refine takeW (i := 4) (d := (some 20)) (v := ?_) rfl rfl (by kernel_rfl) (by kernel_rfl) (by kernel_rfl) (fun _ _ _ h => h) (by rfl) ?_ (by assumption) ?_
        rotate_left
        · intro w' hSw; (try dsimp only at hSw); go_simp; try with_reducible rfl
        try simp only [Act.put, List.setIfInBounds_toArray, List.set_cons_zero, List.set_cons_succ]
        refine takeW (i := 5) (d := (some 21)) (v := ?_) rfl rfl (by kernel_rfl) (by kernel_rfl) (by kernel_rfl) (fun _ _ _ h => h) (by rfl) ?_ (by assumption) ?_
        rotate_left
        · intro w' hSw; (try dsimp only at hSw); go_simp; try with_reducible rfl
        try simp only [Act.put, List.setIfInBounds_toArray, List.set_cons_zero, List.set_cons_succ]
        refine takeW (i := 6) (d := (some 22)) (v := ?_) rfl rfl (by kernel_rfl) (by kernel_rfl) (by kernel_rfl) (fun _ _ _ h => h) (by rfl) ?_ (by assumption) ?_
        rotate_left
        · intro w' hSw; (try dsimp only at hSw); go_simp; try with_reducible rfl
        try simp only [Act.put, List.setIfInBounds_toArray, List.set_cons_zero, List.set_cons_succ]
        refine takeW (i := 7) (d := (some 23)) (v := ?_) rfl rfl (by kernel_rfl) (by kernel_rfl) (by kernel_rfl) (fun _ _ _ h => h) (by rfl) ?_ (by assumption) ?_
        rotate_left
        · intro w' hSw; (try dsimp only at hSw); go_simp; try with_reducible rfl
        try simp only [Act.put, List.setIfInBounds_toArray, List.set_cons_zero, List.set_cons_succ]
        refine takeW (i := 8) (d := (some 24)) (v := ?_) rfl rfl (by kernel_rfl) (by kernel_rfl) (by kernel_rfl) (fun _ _ _ h => h) (by rfl) ?_ (by assumption) ?_
        rotate_left
        · intro w' hSw; (try dsimp only at hSw); go_simp; try with_reducible rfl
        try simp only [Act.put, List.setIfInBounds_toArray, List.set_cons_zero, List.set_cons_succ]
        refine takeW (i := 9) (d := (some 25)) (v := ?_) rfl rfl (by kernel_rfl) (by kernel_rfl) (by kernel_rfl) (fun _ _ _ h => h) (by rfl) ?_ (by assumption) ?_
        rotate_left
        · intro w' hSw; (try dsimp only at hSw); go_simp; try with_reducible rfl
        try simp only [Act.put, List.setIfInBounds_toArray, List.set_cons_zero, List.set_cons_succ]
        refine takeW (i := 10) (d := (some 26)) (v := ?_) rfl rfl (by kernel_rfl) (by kernel_rfl) (by kernel_rfl) (fun _ _ _ h => h) (by rfl) ?_ (by assumption) ?_
        rotate_left
        · intro w' hSw; (try dsimp only at hSw); go_simp; try with_reducible rfl
        try simp only [Act.put, List.setIfInBounds_toArray, List.set_cons_zero, List.set_cons_succ]
        refine takeW (i := 11) (d := (some 27)) (v := ?_) rfl rfl (by kernel_rfl) (by kernel_rfl) (by kernel_rfl) (fun _ _ _ h => h) (by rfl) ?_ (by assumption) ?_
        rotate_left
        · intro w' hSw; (try dsimp only at hSw); go_simp; try with_reducible rfl
        try simp only [Act.put, List.setIfInBounds_toArray, List.set_cons_zero, List.set_cons_succ]
        refine takeW (i := 12) (d := (some 28)) (v := ?_) rfl rfl (by kernel_rfl) (by kernel_rfl) (by kernel_rfl) (fun _ _ _ h => h) (by rfl) ?_ (by assumption) ?_
        rotate_left
        · intro w' hSw; (try dsimp only at hSw); go_simp; try with_reducible rfl
        try simp only [Act.put, List.setIfInBounds_toArray, List.set_cons_zero, List.set_cons_succ]
        refine takeW (i := 13) (d := (some 29)) (v := ?_) rfl rfl (by kernel_rfl) (by kernel_rfl) (by kernel_rfl) (fun _ _ _ h => h) (by rfl) ?_ (by assumption) ?_
        rotate_left
        · intro w' hSw; (try dsimp only at hSw); go_simp; try with_reducible rfl
        try simp only [Act.put, List.setIfInBounds_toArray, List.set_cons_zero, List.set_cons_succ]
        refine takeW (i := 14) (d := (some 30)) (v := ?_) rfl rfl (by kernel_rfl) (by kernel_rfl) (by kernel_rfl) (fun _ _ _ h => h) (by rfl) ?_ (by assumption) ?_
        rotate_left
        · intro w' hSw; (try dsimp only at hSw); go_simp; try with_reducible rfl
        try simp only [Act.put, List.setIfInBounds_toArray, List.set_cons_zero, List.set_cons_succ]
        refine takeW (i := 15) (d := (some 31)) (v := ?_) rfl rfl (by kernel_rfl) (by kernel_rfl) (by kernel_rfl) (fun _ _ _ h => h) (by rfl) ?_ (by assumption) ?_
        rotate_left
        · intro w' hSw; (try dsimp only at hSw); go_simp; try with_reducible rfl
        try simp only [Act.put, List.setIfInBounds_toArray, List.set_cons_zero, List.set_cons_succ]
        refine takeW (i := 16) (d := (some 32)) (v := ?_) rfl rfl (by kernel_rfl) (by kernel_rfl) (by kernel_rfl) (fun _ _ _ h => h) (by rfl) ?_ (by assumption) ?_
        rotate_left
        · intro w' hSw; (try dsimp only at hSw); go_simp; try with_reducible rfl
        try simp only [Act.put, List.setIfInBounds_toArray, List.set_cons_zero, List.set_cons_succ]
        refine takeW (i := 17) (d := (some 33)) (v := ?_) rfl rfl (by kernel_rfl) (by kernel_rfl) (by kernel_rfl) (fun _ _ _ h => h) (by rfl) ?_ (by assumption) ?_
        rotate_left
        · intro w' hSw; (try dsimp only at hSw); go_simp; try with_reducible rfl
        try simp only [Act.put, List.setIfInBounds_toArray, List.set_cons_zero, List.set_cons_succ]
        refine takeW (i := 18) (d := (some 34)) (v := ?_) rfl rfl (by kernel_rfl) (by kernel_rfl) (by kernel_rfl) (fun _ _ _ h => h) (by rfl) ?_ (by assumption) ?_
        rotate_left
        · intro w' hSw; (try dsimp only at hSw); go_simp; try with_reducible rfl
        try simp only [Act.put, List.setIfInBounds_toArray, List.set_cons_zero, List.set_cons_succ]
        refine takeW (i := 19) (d := (some 35)) (v := ?_) rfl rfl (by kernel_rfl) (by kernel_rfl) (by kernel_rfl) (fun _ _ _ h => h) (by rfl) ?_ (by assumption) ?_
        rotate_left
        · intro w' hSw; (try dsimp only at hSw); go_simp; try with_reducible rfl
        try simp only [Act.put, List.setIfInBounds_toArray, List.set_cons_zero, List.set_cons_succ]
        refine takeW (i := 20) (d := (some 36)) (v := ?_) rfl rfl (by kernel_rfl) (by kernel_rfl) (by kernel_rfl) (fun _ _ _ h => h) (by rfl) ?_ (by assumption) ?_
        rotate_left
        · intro w' hSw; (try dsimp only at hSw); go_simp; try with_reducible rfl
        try simp only [Act.put, List.setIfInBounds_toArray, List.set_cons_zero, List.set_cons_succ]
        refine takeW (i := 21) (d := (some 37)) (v := ?_) rfl rfl (by kernel_rfl) (by kernel_rfl) (by kernel_rfl) (fun _ _ _ h => h) (by rfl) ?_ (by assumption) ?_
        rotate_left
        · intro w' hSw; (try dsimp only at hSw); go_simp; try with_reducible rfl
        try simp only [Act.put, List.setIfInBounds_toArray, List.set_cons_zero, List.set_cons_succ]
        refine takeW (i := 22) (d := (some 38)) (v := ?_) rfl rfl (by kernel_rfl) (by kernel_rfl) (by kernel_rfl) (fun _ _ _ h => h) (by rfl) ?_ (by assumption) ?_
        rotate_left
        · intro w' hSw; (try dsimp only at hSw); go_simp; try with_reducible rfl
        try simp only [Act.put, List.setIfInBounds_toArray, List.set_cons_zero, List.set_cons_succ]
        refine takeW (i := 23) (d := (some 39)) (v := ?_) rfl rfl (by kernel_rfl) (by kernel_rfl) (by kernel_rfl) (fun _ _ _ h => h) (by rfl) ?_ (by assumption) ?_
        rotate_left
        · intro w' hSw; (try dsimp only at hSw); go_simp; try with_reducible rfl
        try simp only [Act.put, List.setIfInBounds_toArray, List.set_cons_zero, List.set_cons_succ]
        refine wpAnyH_done (by kernel_rfl) ?_ _
        have own5' := own_k0 own5b hch23.out
        have O5' : Hid (∀ x ∈ out, OwnV w3 w.heap.size x) := fun x hx => own_k0 (O5b.out x hx) hch23.out
        by_cases h0 : 0 < out.length
        · have HN0 := Lib.hid (HNo.out h0)
          clear HNo
          go_wp2_with (fail)
          go_ret
          exact ⟨A5, c5, out, rfl, HN0.out, own5', O5', hcb.trans hch23.out (by simp)⟩
        · have HN0 := Lib.hid (HNz.out h0)
          have h00 : out.length = 0 := by omega
          clear HNo HNz
          go_wp2_with (fail)
          go_roundw
          case rel => exact ⟨k + 1, A5, c5, out, by omega, by omega, by go_num, rfl, HN0, own5', O5', HI.out.keep hch23.out (by simp), hcb.trans hch23.out (by simp)⟩
          case measure => simp [intOf]; omega
      have hqb : (rq == ap + 1 + (out.length : Int)) = true := by rw [hq]; simp
      have HY := Lib.hid (HYes.out ⟨rfl, ho, hq⟩)
      have HNo := HNo0
      have HNz := HNz0
      clear HNo0 HNz0 HYes ho hq
      refine wp_region_held_drew (S := fun w' => w'.cell? ⟨g, 0, none⟩ = some (.int .i64 ro) ∧ w'.cell? ⟨g, 1, none⟩ = some (.int .i64 rq) ∧ w'.cell? ⟨g, 2, none⟩ = some (.string ⟨key.toArray⟩) ∧ w'.cell? ⟨g, 3, none⟩ = some (.int .i64 m) ∧ w'.cell? ⟨g, 4, none⟩ = some (.int .i64 c') ∧ w'.cell? ⟨g, 5, none⟩ = some (.int .i64 vo) ∧ w'.cell? ⟨g, 6, none⟩ = some (.slice A' val.length cp) ∧ w'.cell? ⟨g, 7, none⟩ = some (.bool gone) ∧ w'.cell? ⟨g, 8, none⟩ = some (.int .i64 ttl) ∧ w'.cell? ⟨gi, 1, none⟩ = some (.int .i64 org) ∧ w'.cell? ⟨gi, 2, none⟩ = some (.int .i64 ap)) (by kernel_rfl) ?_ (fun hHeld => ?_)
      · exact KK.out _ ((Chg.refl [] wb).drewN 1)
      refine takeW (i := 0) (d := (some 16)) (v := ?_) rfl rfl (by kernel_rfl) (by kernel_rfl) (by kernel_rfl) (fun _ _ _ h => h) (by rfl) ?_ (by assumption) ?_
      rotate_left
      · intro w' hSw; (try dsimp only at hSw); go_simp; try with_reducible rfl
      try simp only [Act.put, List.setIfInBounds_toArray, List.set_cons_zero, List.set_cons_succ]
      refine wpAnyH_ready (rs := [1]) (by kernel_rfl) (by simp) ?_
      refine AllReadyH.cons rfl (fun K hK => ?_) AllReadyH.nil
      go_simp
      go_at_call 38
      (with_reducible refine (recIs_to _ ro rq key m c' vo A' val cp gone ttl _ hs.out).mono ?_)
      rintro e w3 ⟨rfl, hch3⟩
      have hch23 : Hid (Chg [] wb w3) := ((by repeat' (first | (with_reducible assumption) | (with_reducible exact Chg.refl _ _) | (with_reducible refine Chg.alloc ?_ _) | (with_reducible refine Chg.drewN ?_ _) | (with_reducible refine Chg.drew ?_) | (with_reducible refine Chg.strW ?_ _ _) | (with_reducible refine Chg.t0 ?_ (by with_reducible assumption)))) : Chg [] wb w3)
      go_wp2_with (fail)
      refine hK.out _ _ ?_ (fun hHeld => ?_)
      · first | exact KK.out _ hch23.out | (dsimp only; exact KK.out _ hch23.out)
      clear hK K
      try simp only [Act.put, List.setIfInBounds_toArray, List.set_cons_zero, List.set_cons_succ]
      refine takeW (i := 2) (d := (some 18)) (v := ?_) rfl rfl (by kernel_rfl) (by kernel_rfl) (by kernel_rfl) (fun _ _ _ h => h) (by rfl) ?_ (by assumption) ?_
      rotate_left
      · intro w' hSw; (try dsimp only at hSw); go_simp; try with_reducible rfl
      try simp only [Act.put, List.setIfInBounds_toArray, List.set_cons_zero, List.set_cons_succ]
      refine takeW (i := 3) (d := (some 19)) (v := ?_) rfl rfl (by kernel_rfl) (by kernel_rfl) (by kernel_rfl) (fun _ _ _ h => h) (by rfl) ?_ (by assumption) ?_
      rotate_left
      · intro w' hSw; (try dsimp only at hSw); go_simp; try with_reducible rfl
      try simp only [Act.put, List.setIfInBounds_toArray, List.set_cons_zero, List.set_cons_succ]
      refine takeW (i := 4) (d := (some 20)) (v := ?_) rfl rfl (by kernel_rfl) (by kernel_rfl) (by kernel_rfl) (fun _ _ _ h => h) (by rfl) ?_ (by assumption) ?_
      rotate_left
      · intro w' hSw; (try dsimp only at hSw); go_simp; try with_reducible rfl
      try simp only [Act.put, List.setIfInBounds_toArray, List.set_cons_zero, List.set_cons_succ]
      refine takeW (i := 5) (d := (some 21)) (v := ?_) rfl rfl (by kernel_rfl) (by kernel_rfl) (by kernel_rfl) (fun _ _ _ h => h) (by rfl) ?_ (by assumption) ?_
      rotate_left
      · intro w' hSw; (try dsimp only at hSw); go_simp; try with_reducible rfl
      try simp only [Act.put, List.setIfInBounds_toArray, List.set_cons_zero, List.set_cons_succ]
      refine takeW (i := 6) (d := (some 22)) (v := ?_) rfl rfl (by kernel_rfl) (by kernel_rfl) (by kernel_rfl) (fun _ _ _ h => h) (by rfl) ?_ (by assumption) ?_
      rotate_left
      · intro w' hSw; (try dsimp only at hSw); go_simp; try with_reducible rfl
      try simp only [Act.put, List.setIfInBounds_toArray, List.set_cons_zero, List.set_cons_succ]
      refine takeW (i := 7) (d := (some 23)) (v := ?_) rfl rfl (by kernel_rfl) (by kernel_rfl) (by kernel_rfl) (fun _ _ _ h => h) (by rfl) ?_ (by assumption) ?_
      rotate_left
      · intro w' hSw; (try dsimp only at hSw); go_simp; try with_reducible rfl
      try simp only [Act.put, List.setIfInBounds_toArray, List.set_cons_zero, List.set_cons_succ]
      refine takeW (i := 8) (d := (some 24)) (v := ?_) rfl rfl (by kernel_rfl) (by kernel_rfl) (by kernel_rfl) (fun _ _ _ h => h) (by rfl) ?_ (by assumption) ?_
      rotate_left
      · intro w' hSw; (try dsimp only at hSw); go_simp; try with_reducible rfl
      try simp only [Act.put, List.setIfInBounds_toArray, List.set_cons_zero, List.set_cons_succ]
      refine takeW (i := 9) (d := (some 25)) (v := ?_) rfl rfl (by kernel_rfl) (by kernel_rfl) (by kernel_rfl) (fun _ _ _ h => h) (by rfl) ?_ (by assumption) ?_
      rotate_left
      · intro w' hSw; (try dsimp only at hSw); go_simp; try with_reducible rfl
      try simp only [Act.put, List.setIfInBounds_toArray, List.set_cons_zero, List.set_cons_succ]
      refine takeW (i := 10) (d := (some 26)) (v := ?_) rfl rfl (by kernel_rfl) (by kernel_rfl) (by kernel_rfl) (fun _ _ _ h => h) (by rfl) ?_ (by assumption) ?_
      rotate_left
      · intro w' hSw; (try dsimp only at hSw); go_simp; try with_reducible rfl
      try simp only [Act.put, List.setIfInBounds_toArray, List.set_cons_zero, List.set_cons_succ]
      refine takeW (i := 11) (d := (some 27)) (v := ?_) rfl rfl (by kernel_rfl) (by kernel_rfl) (by kernel_rfl) (fun _ _ _ h => h) (by rfl) ?_ (by assumption) ?_
      rotate_left
      · intro w' hSw; (try dsimp only at hSw); go_simp; try with_reducible rfl
      try simp only [Act.put, List.setIfInBounds_toArray, List.set_cons_zero, List.set_cons_succ]
      refine takeW (i := 12) (d := (some 28)) (v := ?_) rfl rfl (by kernel_rfl) (by kernel_rfl) (by kernel_rfl) (fun _ _ _ h => h) (by rfl) ?_ (by assumption) ?_
      rotate_left
      · intro w' hSw; (try dsimp only at hSw); go_simp; try with_reducible rfl
      try simp only [Act.put, List.setIfInBounds_toArray, List.set_cons_zero, List.set_cons_succ]
      refine takeW (i := 13) (d := (some 29)) (v := ?_) rfl rfl (by kernel_rfl) (by kernel_rfl) (by kernel_rfl) (fun _ _ _ h => h) (by rfl) ?_ (by assumption) ?_
      rotate_left
      · intro w' hSw; (try dsimp only at hSw); go_simp; try with_reducible rfl
      try simp only [Act.put, List.setIfInBounds_toArray, List.set_cons_zero, List.set_cons_succ]
      refine takeW (i := 14) (d := (some 30)) (v := ?_) rfl rfl (by kernel_rfl) (by kernel_rfl) (by kernel_rfl) (fun _ _ _ h => h) (by rfl) ?_ (by assumption) ?_
      rotate_left
      · intro w' hSw; (try dsimp only at hSw); go_simp; try with_reducible rfl
      try simp only [Act.put, List.setIfInBounds_toArray, List.set_cons_zero, List.set_cons_succ]
      refine takeW (i := 15) (d := (some 31)) (v := ?_) rfl rfl (by kernel_rfl) (by kernel_rfl) (by kernel_rfl) (fun _ _ _ h => h) (by rfl) ?_ (by assumption) ?_
      rotate_left
      · intro w' hSw; (try dsimp only at hSw); go_simp; try with_reducible rfl
      try simp only [Act.put, List.setIfInBounds_toArray, List.set_cons_zero, List.set_cons_succ]
      refine takeW (i := 16) (d := (some 32)) (v := ?_) rfl rfl (by kernel_rfl) (by kernel_rfl) (by kernel_rfl) (fun _ _ _ h => h) (by rfl) ?_ (by assumption) ?_
      rotate_left
      · intro w' hSw; (try dsimp only at hSw); go_simp; try with_reducible rfl
      try simp only [Act.put, List.setIfInBounds_toArray, List.set_cons_zero, List.set_cons_succ]
      refine takeW (i := 17) (d := (some 33)) (v := ?_) rfl rfl (by kernel_rfl) (by kernel_rfl) (by kernel_rfl) (fun _ _ _ h => h) (by rfl) ?_ (by assumption) ?_
      rotate_left
      · intro w' hSw; (try dsimp only at hSw); go_simp; try with_reducible rfl
      try simp only [Act.put, List.setIfInBounds_toArray, List.set_cons_zero, List.set_cons_succ]
      refine takeW (i := 18) (d := (some 34)) (v := ?_) rfl rfl (by kernel_rfl) (by kernel_rfl) (by kernel_rfl) (fun _ _ _ h => h) (by rfl) ?_ (by assumption) ?_
      rotate_left
      · intro w' hSw; (try dsimp only at hSw); go_simp; try with_reducible rfl
      try simp only [Act.put, List.setIfInBounds_toArray, List.set_cons_zero, List.set_cons_succ]
      refine takeW (i := 19) (d := (some 35)) (v := ?_) rfl rfl (by kernel_rfl) (by kernel_rfl) (by kernel_rfl) (fun _ _ _ h => h) (by rfl) ?_ (by assumption) ?_
      rotate_left
      · intro w' hSw; (try dsimp only at hSw); go_simp; try with_reducible rfl
      try simp only [Act.put, List.setIfInBounds_toArray, List.set_cons_zero, List.set_cons_succ]
      refine takeW (i := 20) (d := (some 36)) (v := ?_) rfl rfl (by kernel_rfl) (by kernel_rfl) (by kernel_rfl) (fun _ _ _ h => h) (by rfl) ?_ (by assumption) ?_
      rotate_left
      · intro w' hSw; (try dsimp only at hSw); go_simp; try with_reducible rfl
      try simp only [Act.put, List.setIfInBounds_toArray, List.set_cons_zero, List.set_cons_succ]
      refine takeW (i := 21) (d := (some 37)) (v := ?_) rfl rfl (by kernel_rfl) (by kernel_rfl) (by kernel_rfl) (fun _ _ _ h => h) (by rfl) ?_ (by assumption) ?_
      rotate_left
      · intro w' hSw; (try dsimp only at hSw); go_simp; try with_reducible rfl
      try simp only [Act.put, List.setIfInBounds_toArray, List.set_cons_zero, List.set_cons_succ]
      refine takeW (i := 22) (d := (some 38)) (v := ?_) rfl rfl (by kernel_rfl) (by kernel_rfl) (by kernel_rfl) (fun _ _ _ h => h) (by rfl) ?_ (by assumption) ?_
      rotate_left
      · intro w' hSw; (try dsimp only at hSw); go_simp; try with_reducible rfl
      try simp only [Act.put, List.setIfInBounds_toArray, List.set_cons_zero, List.set_cons_succ]
      refine takeW (i := 23) (d := (some 39)) (v := ?_) rfl rfl (by kernel_rfl) (by kernel_rfl) (by kernel_rfl) (fun _ _ _ h => h) (by rfl) ?_ (by assumption) ?_
      rotate_left
      · intro w' hSw; (try dsimp only at hSw); go_simp; try with_reducible rfl
      try simp only [Act.put, List.setIfInBounds_toArray, List.set_cons_zero, List.set_cons_succ]
      refine wpAnyH_done (by kernel_rfl) ?_ _
      have own5' := own_k0 own5b hch23.out
      have O5' : Hid (∀ x ∈ out, OwnV w3 w.heap.size x) := fun x hx => own_k0 (O5b.out x hx) hch23.out

      have a3 := ga.keep hch23.out (by simp)
      have ai3 := ai.keep hch23.out (by simp)
      have hc3 : Chg [] w w3 := hcb.trans hch23.out (by simp)
      have hs3 := hc3.size
      have hg3 := a3.lt
      have hvr := HV.out
      have hvl := HVl.out
      have hvr3 : Rd w3 1 A' val.length (cB val) := hvr.keep0 hc3
      clear hvr
      have z0 := a3.cell 0
      have z1 := a3.cell 1
      have z2 := a3.cell 2
      have z3 := a3.cell 3
      have z4 := a3.cell 4
      have z5 := a3.cell 5
      have z6 := a3.cell 6
      have z7 := a3.cell 7
      have z8 := a3.cell 8
      have f6 := a3.free 6
      simp only [List.getElem?_toArray, List.getElem?_cons_zero, List.getElem?_cons_succ] at z0 z1 z2 z3 z4 z5 z6 z7 z8
      clear HNo HNz hch23
      go_wp2_with (first
        | (at_builtin
           refine wpList_append_rd _ rfl (.const (.slice none 0 0)) (.tmp 42) 47 (by rfl) w3.heap.size 5 i0 _ 1 1 Try.underlying47 hi hz0 hz1 hz2 rfl (by omega) (.slice none 0 0) 0 [] (by rfl) (World.ownsRow_nil _ _ _ _) A' val.length cp (cB val) (by rfl) hvr3 (cB_one _) (by unfold maxLen; omega) (by omega) (Nat.le_refl _) ?_
           intro A4 c4 w4 hown4 hg4 hb4
           simp only [Nat.zero_add, List.nil_append] at hown4
           have hch4 : Chg [] w3 w4 := (Chg.refl [] w3).grown hg4 (fun k hk => by simp [Value.ownBlock] at hk)
           have a4 := a3.keep hch4 (by simp)
           have y0 := a4.cell 0
           have y1 := a4.cell 1
           have y2 := a4.cell 2
           have y3 := a4.cell 3
           have y4 := a4.cell 4
           have y5 := a4.cell 5
           have y6 := a4.cell 6
           have y7 := a4.cell 7
           have y8 := a4.cell 8
           have fy6 := a4.free 6
           simp only [List.getElem?_toArray, List.getElem?_cons_zero, List.getElem?_cons_succ] at y0 y1 y2 y3 y4 y5 y6 y7 y8
           have q4 : Chg [g] w4 (w4.setCell ⟨g, 3 + 3, none⟩ (.slice A4 val.length c4)) := (Chg.refl _ _).setCell (.inl (by simp)) _
           have own5s := own_keep (own_k0 own5' hch4) q4 (fun j hj hm => by have := hnb j hj; simp at hm; omega)
           have O5s : Hid (∀ x ∈ out, OwnV (w4.setCell ⟨g, 3 + 3, none⟩ (.slice A4 val.length c4)) w.heap.size x) := fun x hx => own_keep (own_k0 (O5'.out x hx) hch4) q4 (fun j hj hm => by have := hnv.out x hx j hj; simp at hm; omega)
           have own4s := own_keep hown4 q4 (fun j hj hm => by have := (hown4.lt j hj).1; simp at hm; omega)
           have hcs : Chg [] w (w4.setCell ⟨g, 3 + 3, none⟩ (.slice A4 val.length c4)) := (hc3.trans hch4 (by simp)).trans q4 (by simp; omega)
           have ais := (ai3.keep hch4 (by simp)).keep q4 (by simp; omega)
           clear hg4 hb4)
        | (at_builtin
           refine wpList_append_rd _ rfl (.tmp 46) (.tmp 48) 25 (by rfl) w.heap.size 51 i1 _ 9 96 Try.underlying25 hi1 hy0 hy1 hy2 rfl (by omega) (.slice A5 out.length c5) out.length (cRc out) (by rfl) (own5s.alloc _) (some ⟨w4.heap.size, 0, none⟩) 1 1 (cRc [⟨⟨ro, rq, key, m, c', vo, val, gone, ttl⟩, A4, c4⟩]) (by rfl) (Rd.new' (by simp [World.setCell]) rfl rfl) (cRc_one _) (by unfold maxLen; omega) (by omega) (by have := hcs.size; simp [World.setCell] at this ⊢; omega) ?_
           intro A6 c6 w6 hown6 hg6 hb6))
      rw [← cRc_app] at hown6
      go_roundw
      case rel =>
        have q6 : Chg [] (w4.setCell ⟨g, 3 + 3, none⟩ (.slice A4 val.length c4)) _ := (Chg.refl [] _).alloc (.cells #[.int .i64 ro, .int .i64 rq, .string ⟨key.toArray⟩, .int .i64 m, .int .i64 c', .int .i64 vo, .slice A4 val.length c4, .bool gone, .int .i64 ttl] 51)
        have g6 := Chg.of_grown hg6
        have hbase : w.heap.size ≤ w3.heap.size := hc3.size
        have O6 : ∀ x ∈ out ++ [⟨⟨ro, rq, key, m, c', vo, val, gone, ttl⟩, A4, c4⟩], OwnV (w4.setCell ⟨g, 3 + 3, none⟩ (.slice A4 val.length c4)) w.heap.size x := by
          intro x hx
          rcases List.mem_append.1 hx with hx | hx
          · exact O5s.out x hx
          · obtain rfl := List.mem_singleton.1 hx
            exact own_up own4s hbase
        refine ⟨k + 1, A6, c6, out ++ [⟨⟨ro, rq, key, m, c', vo, val, gone, ttl⟩, A4, c4⟩], by omega, by simp; omega, by go_num, by rw [List.length_append]; rfl, ?_, by rw [List.length_append]; exact hown6, ?_, ?_, ?_⟩
        · unfold Hid; rw [List.map_append, List.length_append]; exact HY.out
        · intro x hx
          have h1 := own_k0 (O6 x hx) q6
          refine own_keep h1 g6 (fun j hj hm => ?_)
          simp only [Option.mem_toList] at hm
          exact own_ne' h1 (own_k0 own5s q6) (by decide) j hj hm
        · refine (ais.keep q6 (by simp)).keep g6 (fun hm => ?_)
          simp only [Option.mem_toList] at hm
          have := (own5s.lt _ hm).1
          omega
        · exact (hcs.t0 q6).grown hg6 (fun j hj => .inr (own5s.lt j hj).1)
      case measure => simp [intOf]; omega
    · obtain rfl : k = ls.length := by omega
      have HE : Hid (out.map RcV.r = takeN org ap 0 (ls.map RcV.r)) := by
        have h := HT.out
        rw [show ls.length = (ls.map RcV.r).length by simp, List.drop_length, takeN_nil, List.append_nil] at h
        exact h.symm
      go_wp2_with (fail)
      go_ret
      exact ⟨A5, c5, out, rfl, HE, own5, O5, hch⟩
end Go.Proofs.Ytdfkednggjelcaa
