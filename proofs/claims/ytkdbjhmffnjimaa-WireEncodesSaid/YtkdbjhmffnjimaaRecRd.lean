
/-
  rec.ReadList.
-/
import Derived.Test.YtkdbjhmffnjimaaRecD
import Derived.Test.YtkdbjhmffnjimaaRecLi
namespace Go.Proofs.Ytkdbjhmffnjimaa
open Go.RowKit
set_option linter.unusedVariables false

def OwnV (w : World) (base : Nat) (x : RcV) : Prop := w.ownsRow base 5 1 (.slice x.A x.r.val.length x.cp) x.r.val.length (cB x.r.val)
def RListPost (w : World) (o : Option (List Rc)) (e : Ending) (w' : World) : Prop := ∃ A c ls, e = .returned (.tuple #[.slice A ls.length c, .int .i64 (if o.isSome then 0 else 3)]) ∧ ls.map RcV.r = o.getD [] ∧
  w'.ownsRow w.heap.size 50 9 (.slice A ls.length c) ls.length (cRc ls) ∧ (∀ x ∈ ls, OwnV w' w.heap.size x) ∧ Chg [] w w'
theorem RListPost.bad {w w' : World} {o : Option (List Rc)} (ho : o = none) (h : Chg [] w w') : RListPost w o (.returned (.tuple #[.slice none 0 0, .int .i64 3])) w' := by
  subst ho
  exact ⟨none, 0, [], rfl, rfl, own_none _ _ _ _, by simp, h⟩
theorem info_rec : (Try.prog.info? 50).map (fun i => (i.zero, i.size, i.bytes)) = some (some (.agg #[.int .i64 0, .int .i64 0, .string ⟨#[]⟩, .int .i64 0, .int .i64 0, .int .i64 0, .slice none 0 0, .bool false, .int .i64 0]), 9, 96) := by kernel_rfl
theorem own_ne' {w : World} {b b' : Nat} {e e' : TypeId} {s s' n n' : Nat} {v v' : Value} {xs ys : List Value} (h : w.ownsRow b e s v n xs) (h' : w.ownsRow b' e' s' v' n' ys) (hne : e ≠ e') : ∀ k, v.ownBlock = some k → v'.ownBlock ≠ some k := by
  intro k hk hk'
  rcases h'.2 with ⟨rfl, _⟩ | ⟨g', cap, cur, rfl, _, hh, _⟩
  · simp [Value.ownBlock] at hk'
  · have hg : g' = k := by simpa [Value.ownBlock] using hk'
    subst hg
    exact own_at_ne h (show At w g' e' cur from hh) hne _ hk rfl
theorem decL_64 {L : List UInt8} {n : Nat} {L1 : List UInt8} {b1 : Bool} (h : takeNum L false = (n, L1, b1)) (hn : 64 < n) : decL L = none := by
  unfold decL; rw [h, if_pos hn]
theorem decL_none {L : List UInt8} {n : Nat} {L1 : List UInt8} {b1 : Bool} (h : takeNum L false = (n, L1, b1)) (hn : takeRs n L1 b1 = none) : decL L = none := by
  unfold decL; rw [h]; split
  · rfl
  · simp only [hn]
theorem decL_end {L : List UInt8} {n : Nat} {L1 X : List UInt8} {b1 b' : Bool} {l : List Rc} (h : takeNum L false = (n, L1, b1)) (h64 : n ≤ 64) (hn : takeRs n L1 b1 = some (l, X, b')) : decL L = if (!b' && decide (X = [])) then some l else none := by
  unfold decL; rw [h, if_neg (by simp only; omega)]
  simp only [hn]
  cases b' <;> by_cases hX : X = [] <;> simp [hX]
theorem cells_cRc (x : RcV) : x.cells = cRc [x] := (cRc_one' x).symm

set_option maxRecDepth 100000 in
set_option maxHeartbeats 6400000 in
theorem recReadList_any (w : World) (A : Option Addr) (n c : Nat) (L : List UInt8) (hn : L.length = n) (hr : Rd w 1 A L.length (cB L)) (hl : L.length ≤ 1000000) :
    Calls Try.prog 35 #[.slice A n c] w (RListPost w (decL L)) := by
  subst hn
  obtain ⟨i1, hi1, hy0, hy1, hy2⟩ := info_parts info_rec
  have HR := Lib.hid hr
  clear hr
  obtain ⟨nn, L1, b1, t1⟩ : ∃ nn L1 b1, takeNum L false = (nn, L1, b1) := ⟨_, _, _, rfl⟩
  have hl1 : L1.length ≤ L.length := by have := takeNum_len L false; rw [t1] at this; exact this
  have hnn : nn ≤ 4611686018427387904 := by have := takeNum_le L false; rw [t1] at this; exact this
  have T1 := Lib.hid t1
  clear t1
  go_enter Try.func35, Try.ntmps35
  go_wp2_with (fail)
  refine (newReader_any _ A _ c L rfl HR.out (by omega)).mono ?_
  rintro e w4 ⟨B, S, A1, c1, rfl, k4, hch4, hB, hS, hnd⟩
  have hS' := Lib.hid hS
  have hB4 := k4.at_.lt
  clear hS hnd
  go_wp2_with (fail)
  refine (num_any B S w4 _ A1 c1 L false k4.here (by omega)).mono ?_
  rw [T1.out]
  rintro e w5 ⟨rfl, A2, c2, r5⟩
  simp only at r5 ⊢
  have hc5 : Chg [] w w5 := hch4.trans r5.chg (by simp; omega)
  have hs5 := r5.chg.size
  clear k4 hch4
  by_cases h64 : 64 < nn
  · go_wp2_with (fail)
    refine (bad_any B S w5 _ A2 c2 L1 b1 r5.here).mono ?_
    rintro e w6 ⟨rfl, r6⟩
    have hc6 : Chg [] w w6 := hc5.trans r6.chg (by simp; omega)
    clear r5 hc5 hs5
    go_wp2_with (fail)
    go_loopw [6, 18] (fun s i wr => s = .slice none 0 0 ∧ i = .int .i64 0 ∧ RrG 100 wr B S wr none 0 [] true ∧ Chg [] w wr) (fun _ i _ => 0)
    case atStart => exact ⟨rfl, rfl, r6.here, hc6⟩
    case round =>
      obtain ⟨rfl, rfl, r7, hc7⟩ := hrel
      have h0n : (0 : Int) < (nn : Int) := by omega
      go_wp2_with (fail)
      refine (rbytes_any B S wr _ none 0 [] true r7 (by simp)).mono ?_
      rw [show takeRow [] true = ([], [], true) by decide]
      rintro e w8 ⟨A8, c8, rfl, hown8, A9, c9, r8⟩
      simp only at hown8 r8 ⊢
      have hc8 : Chg [] w w8 := hc7.trans r8.chg (by simp; omega)
      have HD := Lib.hid (recDecode_any w8 A8 _ c8 [] rfl (Rd.of_own hown8) (by simp))
      rw [decR_nil] at HD
      go_wp2_with (fail)
      refine HD.out.mono ?_
      rintro e w9 ⟨⟨r9, A9, cp9⟩, rfl, hr9, _, hch9⟩
      simp only [Option.getD_none] at hr9
      subst hr9
      simp only [RcV.cells, Option.isSome_none]
      clear HD
      go_wp2_with (fail)
      go_ret2
      exact RListPost.bad (decL_64 T1.out h64) ((hc8.trans hch9 (by simp)).alloc _)
  · have h64' : nn ≤ 64 := by omega
    clear h64
    go_wp2_with (fail)
    go_loopw [6, 18] (fun s i wr => ∃ (k : Nat) (A6 A7 : Option Addr) (c6 c7 : Nat) (ls : List RcV) (X : List UInt8) (b' : Bool), k ≤ nn ∧ i = .int .i64 k ∧ s = .slice A6 ls.length c6 ∧ Hid (takeRs k L1 b1 = some (ls.map RcV.r, X, b')) ∧ Hid (ls.length = k) ∧ X.length ≤ 1000000 ∧
      RrG 100 wr B S wr A7 c7 X b' ∧ wr.ownsRow w4.heap.size 50 9 (.slice A6 ls.length c6) ls.length (cRc ls) ∧ Hid (∀ x ∈ ls, OwnV wr w4.heap.size x) ∧ Chg [] w wr ∧ w4.heap.size ≤ wr.heap.size) (fun _ i _ => nn - (intOf i).toNat)
    case atStart => exact ⟨0, none, A2, 0, c2, [], L1, b1, Nat.zero_le _, rfl, rfl, rfl, rfl, by omega, r5.here, own_none _ _ _ _, by simp [Hid], hc5, hs5⟩
    case round =>
      obtain ⟨k, A6, A7, c6, c7, ls, X, b', hk, rfl, rfl, HT, HL, hX, r6, hown6, HO6, hc6, hs6⟩ := hrel
      by_cases hlt : k < nn
      · have hlr := takeRow_len X b'
        have HS := Lib.hid (takeRs_some (k := k) (L := L1) (b := b1) (r := (decR (takeRow X b').1).getD Rc.z) HT.out)
        have HN := Lib.hid (takeRs_none (k := k) (L := L1) (b := b1) HT.out)
        obtain ⟨row, X2, b2, t2⟩ : ∃ row X2 b2, takeRow X b' = (row, X2, b2) := ⟨_, _, _, rfl⟩
        rw [t2] at HS HN hlr
        simp only at HS HN hlr
        obtain ⟨hlX2, hlrow⟩ := hlr
        have T2 := Lib.hid t2
        clear t2
        go_wp2_with (fail)
        refine (rbytes_any B S wr _ A7 c7 X b' r6 (by omega)).mono ?_
        rw [T2.out]
        rintro e w8 ⟨A8, c8, rfl, hown8, A9, c9, r8⟩
        simp only at hown8 r8 ⊢
        have hc8 : Chg [] w w8 := hc6.trans r8.chg (by simp; have := hB; omega)
        have hown68 := own_keep hown6 r8.chg (fun j hj hm => by have := (hown6.lt j hj).1; simp at hm; omega)
        have HO8 : Hid (∀ x ∈ ls, OwnV w8 w4.heap.size x) := fun x hx => own_keep (HO6.out x hx) r8.chg (fun j hj hm => by have := ((HO6.out x hx).lt j hj).1; simp at hm; omega)
        have hs8 := r8.chg.size
        have r8' := r8.here
        have HD := Lib.hid (recDecode_any w8 A8 _ c8 row rfl (Rd.of_own hown8) (by omega))
        obtain ⟨o, ho⟩ : ∃ o, Hid (decR row = o) := ⟨_, rfl⟩
        rw [ho.out] at HD HS HN
        clear r6 r8 hown6 HO6 hc6 hown8
        cases o with
        | none =>
          have HF := Lib.hid (takeRs_more (HN.out rfl) (show k + 1 ≤ nn by omega))
          go_wp2_with (fail)
          refine HD.out.mono ?_
          rintro e w9 ⟨⟨r9, A9, cp9⟩, rfl, hr9, _, hch9⟩
          simp only [Option.getD_none] at hr9
          subst hr9
          simp only [RcV.cells, Option.isSome_none]
          clear HD
          go_wp2_with (fail)
          go_ret2
          exact RListPost.bad (decL_none T1.out HF.out) ((hc8.trans hch9 (by simp)).alloc _)
        | some r =>
          have HF := Lib.hid (HS.out rfl)
          simp only [Option.getD_some] at HF
          go_wp2_with (fail)
          refine HD.out.mono ?_
          rintro e w9 ⟨⟨r9, A10, cp9⟩, rfl, hr9, hown9, hch9⟩
          simp only [Option.getD_some] at hr9
          subst hr9
          have hs9 := hch9.size
          have hown69 := own_k0 hown68 hch9
          have HO9 : Hid (∀ x ∈ ls ++ [⟨r9, A10, cp9⟩], OwnV w9 w4.heap.size x) := by
            intro x hx
            rcases List.mem_append.1 hx with hx | hx
            · exact own_k0 (HO8.out x hx) hch9
            · obtain rfl := List.mem_singleton.1 hx
              exact own_up hown9 (by omega)
          have r9' := r8'.stay hch9 (by simp)
          have hc9 := hc8.trans hch9 (by simp)
          clear HD HS HN ho hown9 HO8 hown68 r8' hc8 T2
          have hcR : cRc [⟨r9, A10, cp9⟩] = [.int .i64 r9.o, .int .i64 r9.q, .string ⟨r9.key.toArray⟩, .int .i64 r9.m, .int .i64 r9.c, .int .i64 r9.vo, .slice A10 r9.val.length cp9, .bool r9.gone, .int .i64 r9.ttl] := rfl
          have hlen := HL.out
          obtain ⟨o, q, key, m, c', vo, val, gone, ttl⟩ := r9
          simp only [RcV.cells, Option.isSome_some, if_true] at hcR ⊢
          have hk64 : k ≤ 63 := by omega
          have hll : ls.length ≤ 63 := by omega
          clear hlen
          go_wp2_with (at_builtin; refine wpList_append_rd _ rfl (.tmp 28) (.tmp 30) 24 (by rfl) w4.heap.size 50 i1 _ 9 96 Try.underlying24 hi1 hy0 hy1 hy2 rfl (by omega) (.slice A6 ls.length c6) ls.length (cRc ls) (by rfl) ((hown69.alloc _).alloc _) (some ⟨w9.heap.size + 1, 0, none⟩) 1 1 (cRc [⟨⟨o, q, key, m, c', vo, val, gone, ttl⟩, A10, cp9⟩]) (by rfl) (Rd.new' (by simp) rfl rfl) (cRc_one _) (by unfold maxLen; omega) (by omega) (by simp; omega) ?_; intro A11 c11 w11 hown11 hg11 hb11)
          rw [← cRc_app] at hown11
          go_roundw
          case rel =>
            have q9 : Chg [] w9 _ := ((Chg.refl [] w9).alloc (.cells #[.int .i64 o, .int .i64 q, .string ⟨key.toArray⟩, .int .i64 m, .int .i64 c', .int .i64 vo, .slice A10 val.length cp9, .bool gone, .int .i64 ttl] 50)).alloc (.cells #[.int .i64 o, .int .i64 q, .string ⟨key.toArray⟩, .int .i64 m, .int .i64 c', .int .i64 vo, .slice A10 val.length cp9, .bool gone, .int .i64 ttl] 50)
            have g11 := Chg.of_grown hg11
            refine ⟨k + 1, A11, A9, c11, c9, ls ++ [⟨⟨o, q, key, m, c', vo, val, gone, ttl⟩, A10, cp9⟩], X2, b2, by omega, by go_num, by rw [List.length_append]; rfl, ?_, ?_, by omega, ?_, by rw [List.length_append]; exact hown11, ?_, ?_, ?_⟩
            · unfold Hid; rw [List.map_append]; exact HF.out
            · unfold Hid; rw [List.length_append, HL.out]; rfl
            · refine (r9'.stay q9 (by simp)).stay g11 (fun j hj => ?_)
              simp only [Option.mem_toList] at hj
              have h1 := (hown69.lt j hj).1
              exact ⟨by omega, fun hm => by have := (hS'.out j hm).2; omega⟩
            · intro x hx
              have h1 := own_k0 (HO9.out x hx) q9
              refine own_keep h1 g11 (fun j hj hm => ?_)
              simp only [Option.mem_toList] at hm
              exact own_ne' h1 (own_k0 hown69 q9) (by decide) j hj hm
            · exact (hc9.t0 q9).grown hg11 (fun j hj => .inr (by have h1 := (hown69.lt j hj).1; have := hc5.size; omega))
            · have := hg11.size
              simp at this
              omega
          case measure => simp [intOf]; omega
      · obtain rfl : k = nn := by omega
        have HE := Lib.hid (decL_end T1.out h64' HT.out)
        go_wp2_with (fail)
        refine (whole_any B S wr _ A7 c7 X b' r6).mono ?_
        rintro e w' ⟨rfl, rfl⟩
        obtain ⟨wh, hwh⟩ : ∃ wh, Hid ((!b' && decide (X = [])) = wh) := ⟨_, rfl⟩
        rw [hwh.out] at HE ⊢
        cases wh
        · go_wp2_with (fail)
          go_ret2
          exact RListPost.bad (by rw [HE.out]; simp) hc6
        · go_wp2_with (fail)
          go_ret2
          have HE' : Hid (decL L = some (ls.map RcV.r)) := by unfold Hid; rw [HE.out]; simp
          rw [HE'.out]
          have hw4 : w.heap.size ≤ w4.heap.size := by have := hB; omega
          exact ⟨A6, c6, ls, rfl, rfl, own_up hown6 (by omega), fun x hx => own_up (HO6.out x hx) (by omega), hc6⟩
end Go.Proofs.Ytkdbjhmffnjimaa
