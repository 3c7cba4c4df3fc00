
/-
  chain: Of.
-/
import Derived.Test.YtmliclfepnebfaaChR
namespace Go.Proofs.Ytmliclfepnebfaa
open Go.RowKit
set_option linter.unusedVariables false
set_option linter.unusedSimpArgs false
set_option maxRecDepth 100000 in
set_option maxHeartbeats 6400000 in
theorem ofC_any (w : World) (A : Option Addr) (c : Nat) (ls : List VrV) (HL : Laid w A ls) (hn : ls.length ≤ 1000000) :
    Calls Try.prog 11 #[.slice A ls.length c] w (OfPost 65 (ls.map VrV.v) w) := by
  have HS : Hid (ChA 65 w (w.alloc (.cells #[.slice none 0 0] 65)) w.heap.size [] []) := ChA.start (All.start w) rfl
  go_enter Try.func11, Try.ntmps11
  go_wp2_with (fail)
  generalize hwz : w.alloc (.cells #[.slice none 0 0] 65) = wz at *
  generalize hgn : w.heap.size = gn at *
  go_loopw [12] (fun i wr => ∃ (k : Nat) (acc : List VV), k ≤ ls.length ∧ i = .int .i64 k ∧ Hid (ofR acc ((ls.map VrV.v).drop k) = ofR [] (ls.map VrV.v)) ∧ Hid (Good acc ∧ acc.length ≤ k) ∧ Hid (ChA 65 w wr gn acc [])) (fun i _ => ls.length - (intOf i).toNat)
  case atStart => exact ⟨0, [], Nat.zero_le _, rfl, rfl, ⟨Good.nil, Nat.le_refl _⟩, HS⟩
  case round =>
    obtain ⟨k, acc, hk, rfl, HR, HG, HC⟩ := hrel
    by_cases hlt : k < ls.length
    · have HLk := HL.keep HC.out.chg
      have HD := Lib.hid (HLk.dat _ (List.getElem_mem hlt))
      have hnil := HLk.nil_ _ (List.getElem_mem hlt)
      have hdl := HLk.len _ (List.getElem_mem hlt)
      obtain ⟨ad, hAd, had, hc0, hc⟩ := HLk.rd.getV hlt
      have hc1 := hc 1 _ (by omega) rfl
      have hc2 := hc 2 _ (by omega) rfl
      have hc3 := hc 3 _ (by omega) rfl
      have hc4 := hc 4 _ (by omega) rfl
      have hc5 := hc 5 _ (by omega) rfl
      have hki : (k : Int) < (ls.length : Int) := by omega
      have hk0 : (0 : Int) ≤ (k : Int) := by omega
      have hdr : (ls.map VrV.v).drop k = (ls[k]).v :: (ls.map VrV.v).drop (k + 1) := by
        rw [List.drop_eq_getElem_cons (by rw [List.length_map]; exact hlt), List.getElem_map]
      rw [hdr] at HR
      generalize hrest : (ls.map VrV.v).drop (k + 1) = rest at *
      clear hdr HLk
      generalize ls[k] = y at *
      clear hc
      obtain ⟨m, q, o, A', d, p, g, t⟩ := y
      simp only [VrV.v] at hc0 hc1 hc2 hc3 hc4 hc5 HD hdl hnil HR
      subst hAd
      have HCB := Lib.hid (HC.out.quiet ((Chg.refl [] wr).alloc (.cells #[.int .i64 m, .int .i64 q, .int .i64 o, .slice A' d.length p, .bool g, .int .i64 t] 28)))
      have HPU := Lib.hid (putC_all HCB.out (by have := HG.out.2; omega) HG.out.1.rise m q o A' p g t d (HD.out.keep0 ((Chg.refl [] wr).alloc _)) hdl hnil)
      clear HCB HD
      go_wp2_with (fail)
      refine HPU.out.mono ?_
      rintro e w5 ⟨rfl, h5⟩
      have H5 := Lib.hid h5
      clear h5 HPU hc0 hc1 hc2 hc3 hc4 hc5
      obtain ⟨pe, HPE⟩ : ∃ pe, Hid (putE acc ⟨m, q, o, d, g, t⟩ = pe) := ⟨_, Lib.hid rfl⟩
      rw [HPE.out]
      by_cases h0 : pe = 0
      · subst h0
        have HR2 : Hid (ofR (putL acc ⟨m, q, o, d, g, t⟩) rest = ofR [] (ls.map VrV.v)) := by
          rw [← HR.out]; show _ = ofR acc (_ :: rest); rw [ofR, if_pos HPE.out]
        go_wp2_with (fail)
        go_roundw
        case rel => exact ⟨k + 1, putL acc ⟨m, q, o, d, g, t⟩, by omega, by go_num, by rw [hrest]; exact HR2.out, ⟨HG.out.1.put _, by have := putL_len acc ⟨m, q, o, d, g, t⟩; have := HG.out.2; omega⟩, H5.out⟩
        case measure => simp [intOf]; omega
      · have HR2 : Hid ((ofR [] (ls.map VrV.v)).1 = pe) := by
          rw [← HR.out]; show (ofR acc (_ :: rest)).1 = _; rw [ofR, if_neg (by rw [HPE.out]; exact h0)]; exact HPE.out
        have hb : (pe != 0) = true := by rw [bne_iff_ne]; exact h0
        go_wp2_with (fail)
        go_ret2
        exact .inr ⟨by rw [HR2.out]; exact h0, by rw [HR2.out]; rfl, H5.out.chg⟩
    · obtain rfl : k = ls.length := by omega
      have hki : ¬ (ls.length : Int) < (ls.length : Int) := by omega
      have HR2 : Hid (ofR [] (ls.map VrV.v) = (0, acc)) := by
        rw [← HR.out, List.drop_of_length_le (by rw [List.length_map]; exact Nat.le_refl _)]; rfl
      go_wp2_with (fail)
      go_ret2
      exact .inl ⟨by rw [HR2.out], gn, rfl, by rw [HR2.out]; exact HC.out, by rw [HR2.out]; exact HG.out.1, by rw [HR2.out, List.length_map]; exact HG.out.2⟩
end Go.Proofs.Ytmliclfepnebfaa
