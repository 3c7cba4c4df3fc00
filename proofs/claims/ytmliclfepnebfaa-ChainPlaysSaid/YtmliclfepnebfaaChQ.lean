
/-
  chain: All; what nothing answers.
-/
import Derived.Test.YtmliclfepnebfaaChP
namespace Go.Proofs.Ytmliclfepnebfaa
open Go.RowKit
set_option linter.unusedVariables false
set_option linter.unusedSimpArgs false
/-- Versions as an answer: they have their memory for themselves. -/
def AllPost (l : List VV) (w : World) (e : Ending) (w' : World) : Prop :=
  ∃ A c ms, e = .returned (.slice A ms.length c) ∧ ms.map VrV.v = l ∧ All w w' [rVs A c ms]
theorem VsP.nodup {A : Option Addr} {c : Nat} {ms : List VrV} {w : World} (h : VsP A c ms w) (hd : (datV ms).Nodup) : (vsF A ms).Nodup :=
  List.nodup_append.2 ⟨blk_nodup A, hd, fun a ha b hb hab => by subst hab; exact h.apart a ha hb⟩
theorem rVs_datV {w0 w : World} {A : Option Addr} {c : Nat} {ms : List VrV} {rs : List Res} (h : All w0 w (rVs A c ms :: rs)) : (datV ms).Nodup := by
  have hn := h.nodup
  simp only [List.map_cons, List.flatten_cons, List.nodup_append] at hn
  exact (List.nodup_append.1 hn.1).2.1
theorem datV_snoc (ms : List VrV) (x : VrV) : datV (ms ++ [x]) = datV ms ++ blk x.A := by simp [datV]
theorem all_start (w : World) : All w w [rVs none 0 []] :=
  (All.start w).new (Chg.refl _ _) _ (fun b hb => by simp [rVs, vsF, datV, blk] at hb) (by simp [rVs, vsF, datV, blk]) ⟨World.ownsRow_nil _ _ _ _, fun m hm => by cases hm⟩ (rVs_stable _ _ _ _)
/-- One more. -/
theorem all_step {w wr w6 w7 : World} {A A5 A7 : Option Addr} {c c5 c7 b : Nat} {ms : List VrV} {v : VV} (H : All w wr [rVs A c ms]) (h6 : Chg [] wr w6)
    (hO : w6.ownsRow b 5 1 (.slice A5 v.d.length c5) v.d.length (cB v.d)) (hb : wr.heap.size ≤ b)
    (ho : w7.ownsRow 0 28 6 (.slice A7 (ms.length + 1) c7) (ms.length + 1) (cVr ms ++ [.int .i64 v.m, .int .i64 v.c, .int .i64 v.o, .slice A5 v.d.length c5, .bool v.g, .int .i64 v.t]))
    (hg : w6.grownBy w7 (Value.slice A ms.length c).ownBlock) (hA7 : blk A7 = (Value.slice A ms.length c).ownBlock.toList ∨ blk A7 = [w6.heap.size]) :
    All w w7 [rVs A7 c7 (ms ++ [⟨v.m, v.c, v.o, A5, v.d, c5, v.g, v.t⟩])] := by
  have hv := H.get 0 rfl
  have h7 : Chg (blk A) w6 w7 := (Chg.of_grown hg).mono (by rw [own_blk]; exact fun _ h => .inl h)
  have hA5 : ∀ j ∈ blk A5, wr.heap.size ≤ j := fun j hj => by have := (own_in hO j hj).1; omega
  have hP : VsP A7 c7 (ms ++ [⟨v.m, v.c, v.o, A5, v.d, c5, v.g, v.t⟩]) w7 := by
    refine ⟨by rw [List.length_append, cVr_app]; exact ho, fun m hm => ?_⟩
    rcases List.mem_append.1 hm with hm | hm
    · have d6 := own_keep (hv.dat m hm) h6 (fun _ _ hm => by simp at hm)
      exact own_keep d6 h7 (fun j hj hA => hv.apart j hA (mem_datV hm (bo _ _ _ _ hj)))
    · obtain rfl := List.mem_singleton.1 hm
      refine own_keep (own_base (base' := 0) hO (fun _ _ => Nat.zero_le _)) h7 (fun j hj hA => ?_)
      have h1 := hA5 j (bo _ _ _ _ hj)
      have h2 := hv.lt j (List.mem_append_left _ hA)
      omega
  have h67 : Chg (vsF A ms) wr w7 := (h6.mono (T := vsF A ms) (fun _ h => by cases h)).trans h7 (fun x hx => .inl (List.mem_append_left _ hx))
  refine H.head h67 _ (fun j hj => ⟨?_, hP.lt j hj⟩) (hP.nodup ?_) hP (rVs_stable _ _ _ _)
  · rcases List.mem_append.1 hj with hj | hj
    · rcases hA7 with h | h
      · rw [h, own_blk] at hj; exact .inl (List.mem_append_left _ hj)
      · rw [h] at hj; obtain rfl := List.mem_singleton.1 hj; exact .inr h6.size
    · rw [datV_snoc] at hj
      rcases List.mem_append.1 hj with hj | hj
      · exact .inl (List.mem_append_right _ hj)
      · exact .inr (hA5 j hj)
  · rw [datV_snoc]
    refine List.nodup_append.2 ⟨rVs_datV H, blk_nodup _, fun a ha b hb hab => ?_⟩
    subst hab
    have h1 := hA5 a hb
    have h2 := hv.lt a (List.mem_append_right _ ha)
    omega
set_option maxRecDepth 100000 in
set_option maxHeartbeats 6400000 in
theorem allC_raw (w : World) (gn : Nat) (A : Option Addr) (c : Nat) (ms : List VrV) (H : ChP 65 gn A c ms w) (hn : ms.length ≤ 1000000) (hV : Valid (ms.map VrV.v)) :
    Calls Try.prog 28 #[.pointer (some ⟨gn, 0, none⟩)] w (AllPost (ms.map VrV.v) w) := by
  obtain ⟨i1, hi1, hy0, hy1, hy2⟩ := info_parts info_ver
  have a0 := H.at_.cell 0
  go_enter Try.func28, Try.ntmps28
  go_wp2_with (fail)
  clear a0
  go_loopw [13, 3] (fun i s wr => ∃ (k : Nat) (A2 : Option Addr) (c2 : Nat) (ls : List VrV), k ≤ ms.length ∧ i = .int .i64 k ∧ s = .slice A2 k c2 ∧ Hid (ls.map VrV.v = (ms.map VrV.v).take k) ∧ Hid (All w wr [rVs A2 c2 ls])) (fun i _ _ => ms.length - (intOf i).toNat)
  case atStart => exact ⟨0, none, 0, [], Nat.zero_le _, rfl, rfl, rfl, all_start w⟩
  case round =>
    obtain ⟨k, A2, c2, ls, hk, rfl, rfl, HM, HL⟩ := hrel
    have hlk : ls.length = k := by
      have := congrArg List.length HM.out
      rw [List.length_map, List.length_take, List.length_map] at this; omega
    by_cases hlt : k < ms.length
    · have HH := Lib.hid (H.keep HL.out.chg)
      have HR := Lib.hid (Rd.of_own HH.out.row)
      have HD := Lib.hid (Rd.of_own (HH.out.dat _ (List.getElem_mem hlt)))
      have hnil : (ms[k]).A = none → (ms[k]).cp = 0 := own_nil (HH.out.dat _ (List.getElem_mem hlt))
      have hdl : (ms[k]).val.length ≤ 1099511627776 := by have := (hV.at_ (List.getElem_mem hlt)).d; exact Nat.le_trans this (by decide)
      have HM2 : Hid (∀ x : VrV, x.v = (ms[k]).v → (ls ++ [x]).map VrV.v = (ms.map VrV.v).take (k + 1)) := fun x hx => by
        rw [List.map_append, HM.out, List.map_cons, List.map_nil, hx, List.take_add_one, List.getElem?_map, List.getElem?_eq_getElem hlt]; rfl
      obtain ⟨ad, hAd, had, hc0, hc⟩ := HR.out.getV hlt
      have hc1 := hc 1 _ (by omega) rfl
      have hc2 := hc 2 _ (by omega) rfl
      have hc3 := hc 3 _ (by omega) rfl
      have hc4 := hc 4 _ (by omega) rfl
      have hc5 := hc 5 _ (by omega) rfl
      have hki : (k : Int) < (ms.length : Int) := by omega
      have hk0 : (0 : Int) ≤ (k : Int) := by omega
      generalize ms[k] = y at *
      clear hc HM
      obtain ⟨m, q, o, A', d, p, g, t⟩ := y
      simp only [VrV.v] at hc0 hc1 hc2 hc3 hc4 hc5 HD hdl hnil HM2
      rw [hAd]
      have HBX := Lib.hid (At.new wr 28 #[.int .i64 m, .int .i64 q, .int .i64 o, .slice A' d.length p, .bool g, .int .i64 t])
      have HCX : Hid (Chg [] wr (wr.alloc (.cells #[.int .i64 m, .int .i64 q, .int .i64 o, .slice A' d.length p, .bool g, .int .i64 t] 28))) := (Chg.refl [] wr).alloc _
      have HOW := Lib.hid (ownC_any (wr.alloc (.cells #[.int .i64 m, .int .i64 q, .int .i64 o, .slice A' d.length p, .bool g, .int .i64 t] 28)) m q o A' p g t d (HD.out.keep0 HCX.out) hdl hnil)
      have HLS := Lib.hid hlk
      clear hlk
      go_wp2_with (fail)
      refine HOW.out.mono ?_
      rintro e w5 ⟨A5, c5, rfl, hown5, hch5⟩
      have HC5 : Hid (Chg [] wr w5) := HCX.out.trans hch5 (by simp)
      have hv2 := HL.out.get 0 rfl
      have HO5 := Lib.hid (own_keep hown5 ((Chg.refl [] w5).alloc (.cells #[.int .i64 m, .int .i64 q, .int .i64 o, .slice A5 d.length c5, .bool g, .int .i64 t] 28)) (fun _ _ hm => by simp at hm))
      have HOL := Lib.hid ((hv2.keep HC5.out).row)
      rw [HLS.out] at HOL
      have hk6 : k ≤ 1000000 := by omega
      clear hown5 hv2 HBX HOW hc0 hc1 hc2 hc3 hc4 hc5 HR HH HD
      go_wp2_with (at_builtin; refine wpList_append_rd _ rfl (.tmp 17) (.tmp 20) 22 (by rfl) 0 28 i1 _ 6 64 Try.underlying22 hi1 hy0 hy1 hy2 rfl (by omega) (.slice A2 k c2) k (cVr ls) (by rfl) (HOL.out.alloc _) (some ⟨w5.heap.size, 0, none⟩) 1 1 [.int .i64 m, .int .i64 q, .int .i64 o, .slice A5 d.length c5, .bool g, .int .i64 t] (by rfl) (Rd.new' rfl rfl rfl) (by simp [Value.oneCell']) (by unfold maxLen; omega) (by omega) (Nat.zero_le _) ?_; intro A6 c6 w6 hown6 hg6 hb6)
      go_roundw
      case rel =>
        refine ⟨k + 1, A6, c6, ls ++ [⟨m, q, o, A5, d, c5, g, t⟩], by omega, by go_num, rfl, HM2.out _ rfl, ?_⟩
        rw [← HLS.out] at hg6 hb6 hown6
        exact all_step (v := ⟨m, q, o, d, g, t⟩) HL.out (HC5.out.alloc _) HO5.out HCX.out.size hown6 hg6 hb6
      case measure => simp [intOf]; omega
    · obtain rfl : k = ms.length := by omega
      have hki : ¬ (ms.length : Int) < (ms.length : Int) := by omega
      go_wp2_with (fail)
      go_ret
      exact ⟨A2, c2, ls, by rw [hlk]; rfl, by rw [HM.out, List.take_of_length_le (by rw [List.length_map]; exact Nat.le_refl _)], HL.out⟩
end Go.Proofs.Ytmliclfepnebfaa
