
/-
  Chapter 18's laws: their own small functions.
-/
import Derived.Test.YtdfkednggjelcaaStrT
import Derived.Test.YtdfkednggjelcaaMRecQ
import Derived.Laws.BitsLemmas
namespace Go.Proofs.Ytdfkednggjelcaa
open Go.RowKit
set_option linter.unusedVariables false
attribute [local go_sem ↓] run_min2 run_max2

def b8 (q : Int) : UInt8 := UInt8.ofNat (q % 256).toNat
theorem b8_wrap (q : Int) : IntKind.u8.wrap q = ((b8 q).toNat : Int) := by
  rw [IntKind.wrap_u8]
  unfold b8
  rw [UInt8.toNat_ofNat']
  omega
/-- The so many-th record of a place. -/
def recO (o q : Int) : Rc := ⟨o, q, [107], max 0 (min q 1099511627776), 0, o, [b8 q], false, 0⟩
def someL (o f : Int) (n : Nat) : List Rc := (List.range n).map fun i : Nat => recO o (f + i)
theorem someL_len (o f : Int) (n : Nat) : (someL o f n).length = n := by simp [someL]
theorem someL_snoc (o f : Int) (n : Nat) : someL o f (n + 1) = someL o f n ++ [recO o (f + n)] := by simp [someL, List.range_succ]
theorem ret_rec1 {fn : Func} {p : Tmp} {tmps : Array Value} {w : World} {g : Nat} {T : TypeId} {cs : Array Value} {Post : Ending → World → Prop} (hs : cs.size = 9) (h : fn.results = #[.cell p 51])
    (hp : tmps.getD p undef = .pointer (some ⟨g, 0, none⟩)) (hg : At w g T cs) (hpost : Post (.returned (.agg cs)) w) :
    bodyPost Try.prog fn Post Exit.ret ⟨tmps, []⟩ w :=
  bodyPost_ret (v := .agg cs) (results_cell_row h tmps w g T _ (0, 0) _ hp hg Try.underlying51 rfl (rec_size.trans (by rw [hs]))) rfl hpost
/-- A value of bytes in a block that is known whole. -/
def NewV (w : World) (base : Nat) (x : RcV) : Prop := ∃ g, x.A = some ⟨g, 0, none⟩ ∧ base ≤ g ∧ At w g 5 (cB x.r.val).toArray
theorem NewV.keep0 {w w' : World} {base : Nat} {x : RcV} (h : NewV w base x) (hc : Chg [] w w') : NewV w' base x := by
  obtain ⟨g, h1, h2, h3⟩ := h
  exact ⟨g, h1, h2, h3.keep hc (by simp)⟩
theorem NewV.rd {w : World} {base : Nat} {x : RcV} (h : NewV w base x) : Rd w 1 x.A x.r.val.length (cB x.r.val) := by
  obtain ⟨g, h1, h2, h3⟩ := h
  rw [h1]
  exact Rd.of_at h3 (by simp [cB_len])
def RecPost (w : World) (r : Rc) (e : Ending) (w' : World) : Prop := ∃ A cp, e = .returned (.agg (RcV.cells ⟨r, A, cp⟩).toArray) ∧ NewV w' w.heap.size ⟨r, A, cp⟩ ∧ Chg [] w w'
set_option maxHeartbeats 1600000 in
theorem record_any (w : World) (o q : Int) :
    Calls Try.prog 35 #[.int .i64 o, .int .i64 q] w (RecPost w (recO o q)) := by
  have a0 := At.new w 51 #[.int .i64 0, .int .i64 0, .string ⟨#[]⟩, .int .i64 0, .int .i64 0, .int .i64 0, .slice none 0 0, .bool false, .int .i64 0]
  go_enter Try.func35, Try.ntmps35
  go_wp2_with (fail)
  have hq : q % 256 = ((b8 q).toNat : Int) := by rw [← b8_wrap, IntKind.wrap_u8]
  rw [hq]
  refine ret_rec1 (g := w.heap.size) (T := 51) (cs := #[.int .i64 o, .int .i64 q, .string ⟨#[107]⟩, .int .i64 (max 0 (min q 1099511627776)), .int .i64 0, .int .i64 o, .slice (some ⟨w.heap.size + 1, 0, none⟩) 1 1, .bool false, .int .i64 0]) rfl Try.results35 rfl ((At.new _ _ _).al _) ?_
  refine ⟨some ⟨w.heap.size + 1, 0, none⟩, 1, rfl, ⟨w.heap.size + 1, rfl, by omega, ?_⟩, ((Chg.refl _ _).alloc _).alloc _⟩
  have h := At.new (w.alloc (.cells #[.int .i64 o, .int .i64 q, .string ⟨#[107]⟩, .int .i64 (max 0 (min q 1099511627776)), .int .i64 0, .int .i64 o, .slice (some ⟨w.heap.size + 1, 0, none⟩) 1 1, .bool false, .int .i64 0] 51)) 5 #[.int .u8 ((b8 q).toNat : Int)]
  rw [show (w.alloc (.cells #[.int .i64 o, .int .i64 q, .string ⟨#[107]⟩, .int .i64 (max 0 (min q 1099511627776)), .int .i64 0, .int .i64 o, .slice (some ⟨w.heap.size + 1, 0, none⟩) 1 1, .bool false, .int .i64 0] 51)).heap.size = w.heap.size + 1 by simp] at h
  exact h

def SomePost (w : World) (l : List Rc) (e : Ending) (w' : World) : Prop := ∃ A c ls, e = .returned (.slice A ls.length c) ∧ Hid (ls.map RcV.r = l) ∧
  w'.ownsRow w.heap.size 51 9 (.slice A ls.length c) ls.length (cRc ls) ∧ Hid (∀ x ∈ ls, NewV w' w.heap.size x) ∧ Chg [] w w'
set_option maxRecDepth 100000 in
set_option maxHeartbeats 6400000 in
theorem some_any (w : World) (o f m : Int) (hm : m ≤ 1000000) (hf0 : -4611686018427387904 ≤ f) (hf1 : f ≤ 4611686018427387904) :
    Calls Try.prog 21 #[.int .i64 o, .int .i64 f, .int .i64 m] w (SomePost w (someL o f m.toNat)) := by
  obtain ⟨i1, hi1, hy0, hy1, hy2⟩ := info_parts info_rec
  go_enter Try.func21, Try.ntmps21
  go_wp2_with (fail)
  go_loopw [8, 7] (fun i s wr => ∃ (k : Nat) (A : Option Addr) (c : Nat) (ls : List RcV), k ≤ m.toNat ∧ i = .int .i64 k ∧ s = .slice A ls.length c ∧ Hid (ls.map RcV.r = someL o f k) ∧ Hid (ls.length = k) ∧
      wr.ownsRow w.heap.size 51 9 (.slice A ls.length c) ls.length (cRc ls) ∧ Hid (∀ x ∈ ls, NewV wr w.heap.size x) ∧ Chg [] w wr) (fun i _ _ => m.toNat - (intOf i).toNat)
  case atStart => exact ⟨0, none, 0, [], Nat.zero_le _, rfl, rfl, rfl, rfl, own_none _ _ _ _, by simp [Hid], Chg.refl _ _⟩
  case round =>
    obtain ⟨k, A, c, ls, hk, rfl, rfl, HM, HLK, own, HV, hch⟩ := hrel
    by_cases hlt : (k : Int) < m
    · have hk1 : k + 1 ≤ m.toNat := by omega
      have hl6 : ls.length ≤ 1000000 := by have := HLK.out; omega
      go_wp2_with (fail)
      refine (record_any wr o (f + (k : Int))).mono ?_
      rintro e w2 ⟨A2, cp2, rfl, hr2, hch2⟩
      have own2 := own_k0 own hch2
      have hc2 := hch.trans hch2 (by simp)
      have hs2 := hc2.size
      have HX : Hid (recO o (f + (k : Int)) = ⟨o, f + (k : Int), [107], max 0 (min (f + (k : Int)) 1099511627776), 0, o, [b8 (f + (k : Int))], false, 0⟩) := rfl
      have hs0 : w.heap.size ≤ wr.heap.size := hch.size
      have HV2 : Hid (∀ x ∈ ls ++ [⟨recO o (f + (k : Int)), A2, cp2⟩], NewV w2 w.heap.size x) := by
        intro x hx
        rcases List.mem_append.1 hx with hx | hx
        · exact (HV.out x hx).keep0 hch2
        · obtain rfl := List.mem_singleton.1 hx
          obtain ⟨g, h1, h2, h3⟩ := hr2
          exact ⟨g, h1, Nat.le_trans hs0 h2, h3⟩
      clear hr2 HV
      simp only [RcV.cells, recO, List.length_cons, List.length_nil, Nat.zero_add] at *
      go_wp2_with (at_builtin; refine wpList_append_rd _ rfl (.tmp 14) (.tmp 20) 25 (by rfl) w.heap.size 51 i1 _ 9 96 Try.underlying25 hi1 hy0 hy1 hy2 rfl (by omega) (.slice A ls.length c) ls.length (cRc ls) (by rfl) (own2.alloc _) (some ⟨w2.heap.size, 0, none⟩) 1 1 (cRc [⟨recO o (f + (k : Int)), A2, cp2⟩]) (by rfl) (Rd.new' rfl rfl rfl) (cRc_one _) (by unfold maxLen; omega) (by omega) (by simp; omega) ?_; intro A6 c6 w6 hown6 hg6 hb6)
      rw [← cRc_app] at hown6
      go_roundw
      case rel =>
        have q6 : Chg [] w2 _ := (Chg.refl [] w2).alloc (.cells #[.int .i64 o, .int .i64 (f + (k : Int)), .string ⟨#[107]⟩, .int .i64 (max 0 (min (f + (k : Int)) 1099511627776)), .int .i64 0, .int .i64 o, .slice A2 1 cp2, .bool false, .int .i64 0] 51)
        have g6 := Chg.of_grown hg6
        refine ⟨k + 1, A6, c6, ls ++ [⟨recO o (f + (k : Int)), A2, cp2⟩], hk1, by go_num, by rw [List.length_append]; rfl, ?_, by unfold Hid; rw [List.length_append, HLK.out]; rfl, by rw [List.length_append]; exact hown6, ?_, (hc2.t0 q6).grown hg6 (fun j hj => .inr (own2.lt j hj).1)⟩
        · unfold Hid; rw [List.map_append, HM.out, someL_snoc]; rfl
        · intro x hx
          obtain ⟨g, h1, h2, h3⟩ := (HV2.out x hx).keep0 q6
          refine ⟨g, h1, h2, h3.keep g6 (fun hm => ?_)⟩
          simp only [Option.mem_toList] at hm
          exact own_at_ne (own_k0 own2 q6) h3 (by decide) g hm rfl
      case measure => simp [intOf]; omega
    · obtain rfl : k = m.toNat := by omega
      go_wp2_with (fail)
      go_ret
      exact ⟨A, c, ls, rfl, HM, own, HV, hch⟩

/-- 'heavy' is told: where it says no, records are no more than is looked at. -/
def HeavyL (most : Nat) (ls : List RcV) (w : World) (e : Ending) (w' : World) : Prop := ∃ hv : Bool, e = .returned (.bool hv) ∧ (hv = false → 20 * ls.length + (ls.map fun x => x.r.key.length + x.r.val.length).sum ≤ most) ∧ Chg [] w w'
set_option maxRecDepth 100000 in
set_option maxHeartbeats 1800000 in
theorem heavyL_any (w : World) (A : Option Addr) (n c : Nat) (ls : List RcV) (hn : ls.length = n) (hr : Rd w 9 A ls.length (cRc ls)) (hls : ls.length ≤ 140737488351232) (hbs : ∀ x ∈ ls, x.r.key.length ≤ 140737488351232 ∧ x.r.val.length ≤ 140737488351232) :
    Calls Try.prog 10 #[.slice A n c] w (HeavyL 8000 ls w) := by
  subst hn
  have HB := Lib.hid hbs
  have HR := Lib.hid hr
  clear hbs hr
  go_enter Try.func10, Try.ntmps10
  go_wp2_with (fail)
  go_loopw [4, 3] (fun i m wr => ∃ k x : Nat, k ≤ ls.length ∧ i = .int .i64 k ∧ m = .int .i64 x ∧ x ≤ 8000 ∧ Hid (x = 20 * k + ((ls.take k).map fun x => x.r.key.length + x.r.val.length).sum) ∧ Chg [] w wr) (fun i _ _ => ls.length - (intOf i).toNat)
  case atStart => exact ⟨0, 0, Nat.zero_le _, rfl, rfl, by omega, by simp [Hid], Chg.refl _ _⟩
  case round =>
    obtain ⟨k, x, hk, rfl, rfl, hx, HX, hch⟩ := hrel
    by_cases hlt : k < ls.length
    · obtain ⟨ad, rfl, had, hc0, hc⟩ := (HR.out.keep0 hch).getR hlt
      have hrb := HB.out _ (List.getElem_mem hlt)
      have HT : Hid (((ls.take (k + 1)).map fun x => x.r.key.length + x.r.val.length).sum = ((ls.take k).map fun x => x.r.key.length + x.r.val.length).sum + (ls[k].r.key.length + ls[k].r.val.length)) := by
        unfold Hid; rw [List.take_succ_eq_append_getElem hlt, List.map_append, List.sum_append]; simp
      have hc2 := hc 2 _ (by omega) rfl
      have hc6 := hc 6 _ (by omega) rfl
      generalize ls[k] = r at *
      clear hc hc0
      obtain ⟨⟨o, q, key, m, c', vo, val, gone, ttl⟩, A', cp⟩ := r
      simp only at hc2 hc6 HT hrb
      obtain ⟨hb1, hb2⟩ := hrb
      have hki : (k : Int) < (ls.length : Int) := by omega
      go_wp2_with (fail)
      go_quiet (fail)
      by_cases h5 : 8000 < x + 20 + key.length + val.length
      · go_wp2_with (fail)
        go_ret
        exact ⟨true, rfl, by simp, by first | exact hch.drewN _ | exact hch⟩
      · go_wp2_with (fail)
        go_roundw
        case rel => exact ⟨k + 1, x + 20 + key.length + val.length, by omega, by go_num, by go_num, by omega, by unfold Hid; rw [HT.out, HX.out]; omega, by first | exact hch.drewN _ | exact hch⟩
        case measure => simp [intOf]; omega
    · obtain rfl : k = ls.length := by omega
      go_wp2_with (fail)
      go_ret
      refine ⟨false, rfl, fun _ => ?_, hch⟩
      have h := HX.out
      rw [List.take_length] at h
      omega

theorem sum_mem {ls : List RcV} {f : RcV → Nat} {x : RcV} (h : x ∈ ls) : f x ≤ (ls.map f).sum := by
  induction ls with
  | nil => cases h
  | cons a l ih =>
    simp only [List.map_cons, List.sum_cons]
    rcases List.mem_cons.1 h with rfl | h
    · omega
    · have := ih h; omega

/-! ### Nobody -/
theorem needNil (w : World) (n : Int) : Calls Try.prog 27 #[.pointer none, .int .i64 n] w fun e w' => e = .returned (.tuple #[.int .i64 0, .bool false]) ∧ w' = w := by
  go_enter Try.func27, Try.ntmps27
  go_wp2_with (fail)
  go_ret2
  exact ⟨rfl, rfl⟩
theorem sendNil (w : World) (A : Option Addr) (n c : Nat) : Calls Try.prog 24 #[.pointer none, .slice A n c] w fun e w' => e = .returned (.tuple #[.slice none 0 0, .int .i64 1]) ∧ w' = w := by
  go_enter Try.func24, Try.ntmps24
  go_wp2_with (fail)
  go_ret2
  exact ⟨rfl, rfl⟩
theorem tickNil (w : World) : Calls Try.prog 28 #[.pointer none] w fun e w' => e = .returned (.tuple #[]) ∧ Chg [] w w' := by
  go_enter Try.func28, Try.ntmps28
  go_wp2_with (fail)
  go_quiet (fail)
  go_wp2_with (fail)
  go_end0
  exact ⟨rfl, by first | exact Chg.refl _ _ | exact (Chg.refl _ _).drewN _⟩
theorem ackNil (w : World) (n : Int) : Calls Try.prog 26 #[.pointer none, .int .i64 n] w fun e w' => e = .returned (.bool false) ∧ w' = w := by
  go_enter Try.func26, Try.ntmps26
  go_wp2_with (fail)
  go_ret
  exact ⟨rfl, rfl⟩
theorem ackedNil (w : World) : Calls Try.prog 34 #[.pointer none] w fun e w' => e = .returned (.int .i64 0) ∧ w' = w := by
  go_enter Try.func34, Try.ntmps34
  go_wp2_with (fail)
  go_ret
  exact ⟨rfl, rfl⟩
theorem takeNil (w : World) (A : Option Addr) (n c : Nat) : Calls Try.prog 14 #[.pointer none, .slice A n c] w fun e w' => e = .returned (.slice none 0 0) ∧ w' = w := by
  go_enter Try.func14, Try.ntmps14
  go_wp2_with (fail)
  go_ret
  exact ⟨rfl, rfl⟩
theorem doneNil (w : World) (n : Int) : Calls Try.prog 18 #[.pointer none, .int .i64 n] w fun e w' => e = .returned (.slice none 0 0) ∧ w' = w := by
  go_enter Try.func18, Try.ntmps18
  go_wp2_with (fail)
  go_ret
  exact ⟨rfl, rfl⟩
theorem appliedNil (w : World) : Calls Try.prog 20 #[.pointer none] w fun e w' => e = .returned (.int .i64 0) ∧ w' = w := by
  go_enter Try.func20, Try.ntmps20
  go_wp2_with (fail)
  go_ret
  exact ⟨rfl, rfl⟩

end Go.Proofs.Ytdfkednggjelcaa
