/-
  HlcTalk: clocks that tell each other their stamps: what is heard is below what is sent behind it.
-/
import Derived.Test.YtaamdgimjbgeeaaHlcPl
import Derived.Test.YtaamdgimjbgeeaaHlcLives
import Derived.Deep.RegionLaw
import Derived.OpenShut
namespace Go.Proofs.Ytaamdgimjbgeeaa
open Go.ChangeShapes Go.WideShapes Go.RowKit
set_option linter.unusedVariables false
attribute [local go_sem ↓] Go.wp_at_zero Go.wp_at_succ

theorem and10 (v : Int) : ∃ m : Nat, bits .and .i64 v 1023 = (m : Int) ∧ m ≤ 1023 := by
  have h : (BitVec.ofInt 64 v &&& BitVec.ofInt 64 1023).toNat ≤ 1023 := by
    rw [BitVec.toNat_and]
    exact Nat.le_trans Nat.and_le_right (by decide)
  refine ⟨(BitVec.ofInt 64 v &&& BitVec.ofInt 64 1023).toNat, ?_, h⟩
  show IntKind.i64.wrap ((BitVec.ofInt 64 v &&& BitVec.ofInt 64 1023).toNat : Int) = _
  rw [IntKind.wrap_i64]
  omega
theorem and16 (v : Int) : ∃ m : Nat, bits .and .i64 v 65535 = (m : Int) ∧ m ≤ 65535 := by
  have h : (BitVec.ofInt 64 v &&& BitVec.ofInt 64 65535).toNat ≤ 65535 := by
    rw [BitVec.toNat_and]
    exact Nat.le_trans Nat.and_le_right (by decide)
  refine ⟨(BitVec.ofInt 64 v &&& BitVec.ofInt 64 65535).toNat, ?_, h⟩
  show IntKind.i64.wrap ((BitVec.ofInt 64 v &&& BitVec.ofInt 64 65535).toNat : Int) = _
  rw [IntKind.wrap_i64]
  omega
theorem cS_set (l : List St) (k : Nat) (s : St) (h : k < l.length) : cS (l.set k s) = ((cS l).set (k * 2) (.int .i64 s.m)).set (k * 2 + 1) (.int .i64 s.c) := by
  induction l generalizing k with
  | nil => simp at h
  | cons a l ih =>
    cases k with
    | zero => simp [cS]
    | succ k =>
      have e : (k + 1) * 2 = k * 2 + 1 + 1 := by omega
      rw [e]
      simp [cS, ih k (by simpa using h)]
/-- Stamps known whole. -/
def Sts (w : World) (g : Nat) (l : List St) : Prop := At w g 40 (cS l).toArray
theorem Sts.get {w : World} {g : Nat} {l : List St} (h : Sts w g l) {k : Nat} (hk : k < l.length) : w.cell? ⟨g, k * 2, none⟩ = some (.int .i64 l[k].m) ∧ w.cell? ⟨g, k * 2 + 1, none⟩ = some (.int .i64 l[k].c) := by
  obtain ⟨h1, h2⟩ := cS_get hk
  exact ⟨by rw [h.cell]; simpa using h1, by rw [h.cell]; simpa using h2⟩
theorem Sts.set {w : World} {g : Nat} {l : List St} (h : Sts w g l) {k : Nat} (hk : k < l.length) (s : St) : Sts ((w.setCell ⟨g, k * 2, none⟩ (.int .i64 s.m)).setCell ⟨g, k * 2 + 1, none⟩ (.int .i64 s.c)) g (l.set k s) := by
  have h2 := (At.set_ h (k * 2) (.int .i64 s.m)).set_ (k * 2 + 1) (.int .i64 s.c)
  unfold Sts
  rw [cS_set l k s hk]
  simpa using h2
theorem maxS_two' (a b : St) : maxS [a, b] = maxS [b, a] := maxS_uniq (fun s => by simp [or_comm])
theorem refMax_to (w : World) (A : Option Addr) (n c : Nat) (l : List St) {m d : Int} (h : maxS l = ⟨m, d⟩) (hn : l.length = n) (hr : Rd w 2 A l.length (cS l)) (hl : l.length ≤ 4611686018427387904) :
    Calls Try.prog 22 #[.slice A n c] w fun e w' => e = .returned (.agg #[.int .i64 m, .int .i64 d]) ∧ Chg [] w w' := by
  have h1 := refMax_any w A n c l hn hr hl
  rw [h] at h1
  exact h1
/-- Three Clocks, and the last stamps told of each. -/
def Talk (w : World) (AR LA : Nat) (P : Nat → Nat) (q : Nat) (wx : World) : Prop := ∃ L : List St, Hid (L.length = 3) ∧ Hid (∀ s ∈ L, 0 ≤ s.m ∧ s.m ≤ 65535 ∧ 0 ≤ s.c ∧ s.c ≤ q) ∧
  Hid (∀ (i : Nat) (h : i < L.length), At wx (P i) 75 (clkC L[i] 1099511627776)) ∧ At wx AR 39 #[.pointer (some ⟨P 0, 0, none⟩), .pointer (some ⟨P 1, 0, none⟩), .pointer (some ⟨P 2, 0, none⟩)] ∧ At wx LA 40 (cS L).toArray ∧ Chg [] w wx

theorem talk_end {w w5 w6 w7 : World} {L1 : List St} {P : Nat → Nat} {LA b k : Nat} {nm nc : Int} (hl : L1.length = 3) (hB : ∀ s ∈ L1, 0 ≤ s.m ∧ s.m ≤ 65535 ∧ 0 ≤ s.c ∧ s.c ≤ (k : Nat))
    (hC : ∀ (i : Nat) (h : i < L1.length), At w5 (P i) 75 (clkC L1[i] 1099511627776)) (hA : At w5 w.heap.size 39 #[.pointer (some ⟨P 0, 0, none⟩), .pointer (some ⟨P 1, 0, none⟩), .pointer (some ⟨P 2, 0, none⟩)])
    (hL : Sts w5 LA L1) (h5 : Chg [] w w5) (h6 : Chg [P b] w5 w6) (hCb : At w6 (P b) 75 (clkC ⟨nm, nc⟩ 1099511627776)) (h7 : Chg [] w6 w7) (hPl : ∀ i, i < 3 → P i < LA ∧ w.heap.size < P i) (hPn : ∀ i j, i < 3 → j < 3 → i ≠ j → P i ≠ P j) (hb : b < 3)
    (hm : 0 ≤ nm ∧ nm ≤ 65535 ∧ 0 ≤ nc ∧ nc ≤ (k : Nat)) : Talk w w.heap.size LA P k ((w7.setCell ⟨LA, b * 2, none⟩ (.int .i64 nm)).setCell ⟨LA, b * 2 + 1, none⟩ (.int .i64 nc)) := by
  have hPb := hPl b hb
  have h8 : Chg [LA] w7 ((w7.setCell ⟨LA, b * 2, none⟩ (.int .i64 nm)).setCell ⟨LA, b * 2 + 1, none⟩ (.int .i64 nc)) := ((Chg.refl [LA] w7).setCell (p := ⟨LA, b * 2, none⟩) (.inl (by simp)) _).setCell (p := ⟨LA, b * 2 + 1, none⟩) (.inl (by simp)) _
  have hL7 : Sts w7 LA L1 := ((show At w5 LA 40 (cS L1).toArray from hL).keep h6 (by simp; omega)).keep h7 (by simp)
  refine ⟨L1.set b ⟨nm, nc⟩, by unfold Hid; simpa using hl, ?_, ?_, ((hA.keep h6 (by simp; omega)).keep h7 (by simp)).keep h8 (by simp; omega), hL7.set (by omega) ⟨nm, nc⟩, ((h5.trans h6 (by simp; omega)).trans h7 (by simp)).trans h8 (by simp; omega)⟩
  · intro s hs
    rcases List.mem_or_eq_of_mem_set hs with hs | rfl
    · exact hB s hs
    · exact hm
  · intro i h
    have hi : i < L1.length := by simpa using h
    have hPi := hPl i (by omega)
    rw [List.getElem_set]
    by_cases hbi : b = i
    · subst hbi
      rw [if_pos rfl]
      exact (hCb.keep h7 (by simp)).keep h8 (by simp; omega)
    · rw [if_neg hbi]
      have hne := hPn i b (by omega) hb (fun h => hbi h.symm)
      exact (((hC i hi).keep h6 (by simpa using hne)).keep h7 (by simp)).keep h8 (by simp; omega)

set_option maxRecDepth 100000 in
set_option maxHeartbeats 6400000 in
theorem hlcTalk_walk (w : World) (A1 : Option Addr) (n1 c1 : Nat) (ps : List Int) (hz1 : ps.length = n1) (hr1 : Rd w 1 A1 n1 (ps.map (Value.int .i64))) (_ : n1 ≤ c1) (_ : c1 ≤ maxLen) (_ : ∀ z ∈ ps, (Lit.int .i64 z).wf = true)
    (A2 : Option Addr) (n2 c2 : Nat) (qs : List Int) (hz2 : qs.length = n2) (hr2 : Rd w 1 A2 n2 (qs.map (Value.int .i64))) (_ : n2 ≤ c2) (_ : c2 ≤ maxLen) (hqw : ∀ z ∈ qs, (Lit.int .i64 z).wf = true) :
    Calls Try.prog 5 #[.slice A1 n1 c1, .slice A2 n2 c2] w fun e w' => e = .returned (.bool true) ∧ Chg [] w w' := by
  subst hz1 hz2
  have hr1 : Rd w 1 A1 ps.length (cI ps) := hr1
  have hr2 : Rd w 1 A2 qs.length (cI qs) := hr2
  by_cases hbig : 100 < ps.length
  · go_enter Try.func5, Try.ntmps5
    go_wp2_with (fail)
    go_ret
    exact ⟨rfl, Chg.refl _ _⟩
  · have hn1 : ps.length ≤ 100 := by omega
    clear hbig
    by_cases hbig : 100 < qs.length
    · go_enter Try.func5, Try.ntmps5
      go_wp2_with (fail)
      go_ret
      exact ⟨rfl, Chg.refl _ _⟩
    · have hn2 : qs.length ≤ 100 := by omega
      clear hbig
      have hR1 : raiseF 0 1099511627776 = 0 := by unfold raiseF; rw [if_neg (by omega)]
      have hR2 : raiseB 0 1099511627776 = 1099511627776 := by unfold raiseB; rw [if_neg (by omega)]
      have HR1 := Lib.hid hR1
      have HR2 := Lib.hid hR2
      clear hR1 hR2
      go_enter Try.func5, Try.ntmps5
      go_wp2_with (fail)
      go_loopg [6] 3 (fun g i wr => ∃ (k : Nat) (P : Nat → Nat), g = 3 - k ∧ k ≤ 3 ∧ i = .int .i64 k ∧ (∀ j, j < k → At wr (P j) 75 (clkC ⟨0, 0⟩ 1099511627776) ∧ w.heap.size < P j) ∧ (∀ j h, j < k → h < j → P h < P j) ∧
        At wr w.heap.size 39 #[if 0 < k then .pointer (some ⟨P 0, 0, none⟩) else .pointer none, if 1 < k then .pointer (some ⟨P 1, 0, none⟩) else .pointer none, if 2 < k then .pointer (some ⟨P 2, 0, none⟩) else .pointer none] ∧ Chg [] w wr)
      case atStart => exact ⟨0, fun _ => 0, rfl, by omega, rfl, fun j hj => absurd hj (by omega), fun j h hj => absurd hj (by omega), At.new _ _ _, (Chg.refl _ _).alloc _⟩
      case round =>
        obtain ⟨k, P, hg, hk, rfl, hC, hO, hA, hch⟩ := hrel
        have Hg := Lib.hid hg
        have HC := Lib.hid hC
        have HO := Lib.hid hO
        clear hg hC hO
        have hal := hA.lt
        by_cases hlt : k < 3
        · go_wp2_with (fail)
          refine (new_yes 0 _ (by omega) (by omega)).mono ?_
          rintro e w1 ⟨rfl, rfl⟩
          have hD : At (wr.alloc (.cells #[.int .i64 0, .int .i64 0, .int .i64 0] 75)) wr.heap.size 75 (clkC ⟨0, 0⟩ 0) := At.new _ _ _
          go_wp2_with (fail)
          refine (raise_to _ wr.heap.size ⟨0, 0⟩ 0 1099511627776 hD HR1.out HR2.out).mono ?_
          rintro e w2 ⟨rfl, hD2, hch2⟩
          have hA2 := (hA.keep ((Chg.refl [] _).alloc (.cells #[.int .i64 0, .int .i64 0, .int .i64 0] 75)) (by simp)).keep hch2 (by simp; omega)
          have a0 := hA2.cell k
          have f0 := hA2.free k
          have hk0 : (0 : Int) ≤ (k : Int) := by omega
          have hk3 : (k : Int) < 3 := by omega
          have h012 : k = 0 ∨ k = 1 ∨ k = 2 := by omega
          have hwr : w.heap.size < wr.heap.size := hal
          rcases h012 with rfl | rfl | rfl
          · simp at a0
            go_wp2_with (fail)
            go_roundg (3 - (0 + 1))
            case rel =>
              have hset : Chg [w.heap.size] w2 (w2.setCell ⟨w.heap.size, 0, none⟩ (.pointer (some ⟨wr.heap.size, 0, none⟩))) := (Chg.refl _ _).setCell (.inl (by simp)) _
              refine ⟨0 + 1, fun j => if j = 0 then wr.heap.size else P j, rfl, by omega, by go_num, fun j hj => ?_, fun j h hj hh => ?_, ?_, ?_⟩
              · by_cases hjk : j = 0
                · subst hjk
                  simp only [if_true]
                  exact ⟨hD2.keep hset (by simp; omega), hwr⟩
                · simp only [if_neg hjk]
                  obtain ⟨h1, h2⟩ := HC.out j (by omega)
                  have h3 := h1.lt
                  exact ⟨((h1.keep ((Chg.refl [] _).alloc _) (by simp)).keep hch2 (by simp; omega)).keep hset (by simp; omega), h2⟩
              · by_cases hjk : j = 0
                · subst hjk
                  simp only [if_true]
                  rw [if_neg (by omega)]
                  exact (HC.out h (by omega)).1.lt
                · simp only [if_neg hjk]
                  rw [if_neg (by omega)]
                  exact HO.out j h (by omega) hh
              · have h9 := hA2.set_ 0 (.pointer (some ⟨wr.heap.size, 0, none⟩))
                simpa using h9
              · exact ((hch.alloc _).trans hch2 (by simp; omega)).setCell (.inr (by simp)) _
            case measure => have := Hg.out; omega
          · simp at a0
            go_wp2_with (fail)
            go_roundg (3 - (1 + 1))
            case rel =>
              have hset : Chg [w.heap.size] w2 (w2.setCell ⟨w.heap.size, 1, none⟩ (.pointer (some ⟨wr.heap.size, 0, none⟩))) := (Chg.refl _ _).setCell (.inl (by simp)) _
              refine ⟨1 + 1, fun j => if j = 1 then wr.heap.size else P j, rfl, by omega, by go_num, fun j hj => ?_, fun j h hj hh => ?_, ?_, ?_⟩
              · by_cases hjk : j = 1
                · subst hjk
                  simp only [if_true]
                  exact ⟨hD2.keep hset (by simp; omega), hwr⟩
                · simp only [if_neg hjk]
                  obtain ⟨h1, h2⟩ := HC.out j (by omega)
                  have h3 := h1.lt
                  exact ⟨((h1.keep ((Chg.refl [] _).alloc _) (by simp)).keep hch2 (by simp; omega)).keep hset (by simp; omega), h2⟩
              · by_cases hjk : j = 1
                · subst hjk
                  simp only [if_true]
                  rw [if_neg (by omega)]
                  exact (HC.out h (by omega)).1.lt
                · simp only [if_neg hjk]
                  rw [if_neg (by omega)]
                  exact HO.out j h (by omega) hh
              · have h9 := hA2.set_ 1 (.pointer (some ⟨wr.heap.size, 0, none⟩))
                simpa using h9
              · exact ((hch.alloc _).trans hch2 (by simp; omega)).setCell (.inr (by simp)) _
            case measure => have := Hg.out; omega
          · simp at a0
            go_wp2_with (fail)
            go_roundg (3 - (2 + 1))
            case rel =>
              have hset : Chg [w.heap.size] w2 (w2.setCell ⟨w.heap.size, 2, none⟩ (.pointer (some ⟨wr.heap.size, 0, none⟩))) := (Chg.refl _ _).setCell (.inl (by simp)) _
              refine ⟨2 + 1, fun j => if j = 2 then wr.heap.size else P j, rfl, by omega, by go_num, fun j hj => ?_, fun j h hj hh => ?_, ?_, ?_⟩
              · by_cases hjk : j = 2
                · subst hjk
                  simp only [if_true]
                  exact ⟨hD2.keep hset (by simp; omega), hwr⟩
                · simp only [if_neg hjk]
                  obtain ⟨h1, h2⟩ := HC.out j (by omega)
                  have h3 := h1.lt
                  exact ⟨((h1.keep ((Chg.refl [] _).alloc _) (by simp)).keep hch2 (by simp; omega)).keep hset (by simp; omega), h2⟩
              · by_cases hjk : j = 2
                · subst hjk
                  simp only [if_true]
                  rw [if_neg (by omega)]
                  exact (HC.out h (by omega)).1.lt
                · simp only [if_neg hjk]
                  rw [if_neg (by omega)]
                  exact HO.out j h (by omega) hh
              · have h9 := hA2.set_ 2 (.pointer (some ⟨wr.heap.size, 0, none⟩))
                simpa using h9
              · exact ((hch.alloc _).trans hch2 (by simp; omega)).setCell (.inr (by simp)) _
            case measure => have := Hg.out; omega
        · obtain rfl : k = 3 := by omega
          have hA3 : At wr w.heap.size 39 #[.pointer (some ⟨P 0, 0, none⟩), .pointer (some ⟨P 1, 0, none⟩), .pointer (some ⟨P 2, 0, none⟩)] := by simpa using hA
          have hO01 := HO.out 1 0 (by omega) (by omega)
          have hO12 := HO.out 2 1 (by omega) (by omega)
          have hw0 := (HC.out 0 (by omega)).2
          have hP2 := (HC.out 2 (by omega)).1.lt
          have HPl : Hid (∀ i, i < 3 → P i < wr.heap.size ∧ w.heap.size < P i) := fun i hi => ⟨(HC.out i hi).1.lt, (HC.out i hi).2⟩
          have HPn : Hid (∀ i j, i < 3 → j < 3 → i ≠ j → P i ≠ P j) := fun i j hi hj hij => by
            rcases Nat.lt_or_ge i j with h | h
            · have := HO.out j i hj h; omega
            · have := HO.out i j hi (by omega); omega
          obtain ⟨LA, HLA⟩ : ∃ LA, Hid (wr.heap.size = LA) := ⟨_, rfl⟩
          have HT : Talk w w.heap.size wr.heap.size P 0 (wr.alloc (.cells #[.int .i64 0, .int .i64 0, .int .i64 0, .int .i64 0, .int .i64 0, .int .i64 0] 40)) := by
            refine ⟨[⟨0, 0⟩, ⟨0, 0⟩, ⟨0, 0⟩], rfl, ?_, ?_, hA3.keep ((Chg.refl [] _).alloc _) (by simp), At.new _ _ _, hch.alloc _⟩
            · intro s hs; simp at hs; subst hs; simp
            · intro i h
              have hi : i < 3 := by simpa using h
              have he : ([⟨0, 0⟩, ⟨0, 0⟩, ⟨0, 0⟩] : List St)[i] = ⟨0, 0⟩ := by
                have h012 : i = 0 ∨ i = 1 ∨ i = 2 := by omega
                rcases h012 with rfl | rfl | rfl <;> rfl
              rw [he]
              exact (HC.out i hi).1.keep ((Chg.refl [] _).alloc _) (by simp)
          clear hA hA3 hch HC HO Hg hO01 hO12 hw0 hP2
          go_wp2_with (fail)
          rw [HLA.out] at HT HPl hal ⊢
          go_loopg [10] ps.length (fun g i wr => ∃ k : Nat, g = ps.length - k ∧ k ≤ ps.length ∧ k ≤ qs.length ∧ i = .int .i64 k ∧ Talk w w.heap.size LA P k wr)
          case atStart => exact ⟨0, rfl, Nat.zero_le _, Nat.zero_le _, rfl, HT⟩
          case round =>
            clear HT
            obtain ⟨k, hg, hkp, hkq, rfl, L, HL, HB, HCl, hAR, hLA, hch⟩ := hrel
            have Hg := Lib.hid hg
            clear hg
            by_cases hlt : k < ps.length ∧ k < qs.length
            · obtain ⟨hlt1, hlt2⟩ := hlt
              obtain ⟨ad1, u, rfl, had1, hu, hcp⟩ := (hr1.keep0 hch).get hlt1
              rw [cI_get hlt1] at hu
              obtain ⟨nn, Hnn, hnn⟩ := and16 ps[k]
              generalize ps[k] = z at *
              obtain rfl : Value.int .i64 z = u := by simpa using hu
              clear hu
              obtain ⟨ad2, u, rfl, had2, hu, hcq⟩ := (hr2.keep0 hch).get hlt2
              rw [cI_get hlt2] at hu
              have hqb := bounds_i64 (hqw _ (List.getElem_mem hlt2))
              obtain ⟨aa, Haa, haa⟩ := and10 qs[k]
              obtain ⟨bb, Hbb, hbb⟩ := and10 (qs[k] / 1024)
              generalize qs[k] = y at *
              obtain rfl : Value.int .i64 y = u := by simpa using hu
              clear hu
              obtain ⟨a, ha⟩ : ∃ a, aa % 3 = a := ⟨_, rfl⟩
              obtain ⟨b, hb⟩ : ∃ b, bb % 3 = b := ⟨_, rfl⟩
              have ha3 : a < 3 := by omega
              have hb3 : b < 3 := by omega
              have haI : (aa : Int) % 3 = (a : Int) := by omega
              have hbI : (bb : Int) % 3 = (b : Int) := by omega
              have k0 : (0 : Int) ≤ (k : Int) := by omega
              have k1 : (k : Int) < (qs.length : Int) := by omega
              have k2 : (k : Int) < (ps.length : Int) := by omega
              have hca : wr.cell? ⟨w.heap.size, a, none⟩ = some (.pointer (some ⟨P a, 0, none⟩)) := by
                have h012 : a = 0 ∨ a = 1 ∨ a = 2 := by omega
                clear haI ha
                rcases h012 with rfl | rfl | rfl
                · exact hAR.cell 0
                · exact hAR.cell 1
                · exact hAR.cell 2
              have hfa := hAR.free a
              have a0 : (0 : Int) ≤ (a : Int) := by omega
              have a1 : (a : Int) < 3 := by omega
              have b0 : (0 : Int) ≤ (b : Int) := by omega
              have b1 : (b : Int) < 3 := by omega
              have hL3 := HL.out
              have haL : a < L.length := by omega
              have hbL : b < L.length := by omega
              have hCa := HCl.out a haL
              obtain ⟨s0, hs0⟩ : ∃ s, L[a] = s := ⟨_, rfl⟩
              obtain ⟨am, ac⟩ := s0
              have Ham := Lib.hid hs0
              clear hs0
              have hBa := HB.out L[a] (List.getElem_mem haL)
              rw [Ham.out] at hCa hBa
              simp only at hBa
              obtain ⟨g1, g2, g3, g7⟩ := nextS_facts ⟨am, ac⟩ nn (by omega) hBa.2.2.1
              obtain ⟨⟨sm, sc⟩, HN⟩ : ∃ s, Hid (nextS ⟨am, ac⟩ nn = s) := ⟨_, rfl⟩
              rw [HN.out] at g1 g2 g3 g7
              simp only at g1 g2 g3
              have g4 : sm ≤ 65535 := by omega
              have g5 : 0 ≤ sm := by omega
              have g6 : sc ≤ k + 1 := by omega
              obtain ⟨hF, hL⟩ := sendF_ok (b := 1099511627776) HN.out (by omega) (by omega) (by simp only; omega) (by simp only; omega)
              have HF := Lib.hid hF
              have HL' := Lib.hid hL
              obtain ⟨cc, HC⟩ : ∃ q, Hid (cmpS ⟨sm, sc⟩ ⟨am, ac⟩ = q) := ⟨_, rfl⟩
              have hcc : 0 < cc := by rw [← HC.out]; exact g7
              have hcc2 : decide (cc ≤ 0) = false := by simp; omega
              clear hF hL g1 g7 hL3
              have hAP := HPl.out a ha3
              have hBP := HPl.out b hb3
              go_wp2_with (fail)
              go_quiet (fail)
              rw [haI, hbI]
              go_wp2_with (fail)
              refine (send_to _ (P a) ⟨am, ac⟩ 1099511627776 nn (hCa.drewN nq) (ClkI.mk' (by omega)) HF.out HL'.out).mono ?_
              rintro e w3 ⟨rfl, hC3, hch3a⟩
              have hch3 : Chg [P a] wr w3 := ((Chg.refl _ wr).drewN nq).trans hch3a (by simp)
              have hAR3 := hAR.keep hch3 (by simp; omega)
              have hLA3 := hLA.keep hch3 (by simp; omega)
              have hLA3l := hLA3.lt
              have hs3 : At (w3.alloc (.cells #[.int .i64 sm, .int .i64 sc] 24)) w3.heap.size 24 #[.int .i64 sm, .int .i64 sc] := At.new _ _ _
              have hg3 := Sts.get (l := L) hLA3 haL
              rw [Ham.out] at hg3
              obtain ⟨l0, l1⟩ := hg3
              have hC3l := hC3.lt
              have hL3a : LA < w3.heap.size := hLA3.lt
              obtain ⟨z0, z1⟩ := Sts.get (l := L) (hLA3.keep ((Chg.refl [] _).alloc (.cells #[.int .i64 sm, .int .i64 sc] 24)) (by simp)) haL
              rw [Ham.out] at z0 z1
              have z2 := hs3.cell 0
              have z3 := hs3.cell 1
              have z4 := hs3.free 0
              have z5 := hs3.free 1
              have z6 := hLA3.free (a * 2)
              have z7 := hLA3.free (a * 2 + 1)
              go_wp2_with (fail)
              go_region_held3 (fun w' => w'.cell? ⟨w3.heap.size, 0, none⟩ = some (.int .i64 sm) ∧ w'.cell? ⟨w3.heap.size, 1, none⟩ = some (.int .i64 sc) ∧ w'.cell? ⟨LA, a * 2, none⟩ = some (.int .i64 am) ∧ w'.cell? ⟨LA, a * 2 + 1, none⟩ = some (.int .i64 ac)) (first | go_keep | exact ⟨z2, z3, z0, z1⟩)
                ((go_at_call 21; refine (refCompare_gt _ _ _ _ _ cc HC.out).mono ?_; rintro e w4 ⟨rfl, hch4a⟩; have hs4 := (hs3.drewN 1).keep hch4a (by simp); have hLA4 := ((hLA3.keep ((Chg.refl [] _).alloc (.cells #[.int .i64 sm, .int .i64 sc] 24)) (by simp)).drewN 1).keep hch4a (by simp); obtain ⟨z0, z1⟩ := Sts.get (l := L) hLA4 haL; rw [Ham.out] at z0 z1; have z2 := hs4.cell 0; have z3 := hs4.cell 1; have z4 := hs4.free 0; have z5 := hs4.free 1; have z6 := hLA4.free (a * 2); have z7 := hLA4.free (a * 2 + 1)))
              have hch4 : Chg [P a] wr w4 := ((hch3.alloc (.cells #[.int .i64 sm, .int .i64 sc] 24)).drewN 1).trans hch4a (by simp)
              go_wp2_with (fail)
              obtain ⟨w5, HW5⟩ : ∃ w5, (w4.setCell ⟨LA, a * 2, none⟩ (.int .i64 sm)).setCell ⟨LA, a * 2 + 1, none⟩ (.int .i64 sc) = w5 := ⟨_, rfl⟩
              rw [HW5]
              obtain ⟨L1, HL1⟩ : ∃ L1, L.set a ⟨sm, sc⟩ = L1 := ⟨_, rfl⟩
              have hs5 : At w5 w3.heap.size 24 #[.int .i64 sm, .int .i64 sc] := by rw [← HW5]; exact hs4.keep (((Chg.refl [LA] w4).setCell (p := ⟨LA, a * 2, none⟩) (.inl (by simp)) _).setCell (p := ⟨LA, a * 2 + 1, none⟩) (.inl (by simp)) _) (by simp; omega)
              have hLA5 : Sts w5 LA L1 := by rw [← HW5, ← HL1]; exact Sts.set (l := L) hLA4 haL ⟨sm, sc⟩
              have hch35 : Chg [LA] w3 w5 := by rw [← HW5]; exact (((((Chg.refl [LA] _).alloc (.cells #[.int .i64 sm, .int .i64 sc] 24)).drewN 1).trans hch4a (by simp))).setCell (p := ⟨LA, a * 2, none⟩) (.inl (by simp)) _ |>.setCell (p := ⟨LA, a * 2 + 1, none⟩) (.inl (by simp)) _
              have hch5 : Chg [] w w5 := (hch.trans hch3 (by simp; omega)).trans hch35 (by simp; omega)
              have HC5 : Hid (∀ (i : Nat) (h : i < L1.length), At w5 (P i) 75 (clkC L1[i] 1099511627776)) := by
                intro i h
                subst HL1
                have hi : i < L.length := by simpa using h
                have hPi := HPl.out i (by have := HL.out; omega)
                rw [List.getElem_set]
                by_cases hai : a = i
                · subst hai
                  rw [if_pos rfl]
                  exact hC3.keep hch35 (by simp; omega)
                · rw [if_neg hai]
                  have hne := HPn.out i a (by have := HL.out; omega) ha3 (fun h => hai h.symm)
                  exact ((HCl.out i hi).keep hch3 (by simpa using hne)).keep hch35 (by simp; omega)
              have HL1l : Hid (L1.length = 3) := by subst HL1; have := HL.out; unfold Hid; simpa using this
              have HB1 : Hid (∀ s ∈ L1, 0 ≤ s.m ∧ s.m ≤ 65535 ∧ 0 ≤ s.c ∧ s.c ≤ (k + 1 : Nat)) := by
                intro s hs
                subst HL1
                rcases List.mem_or_eq_of_mem_set hs with hs | rfl
                · have := HB.out s hs; omega
                · simp only; omega
              have hAR5 := hAR3.keep hch35 (by simp; omega)
              clear hCa hC3 z0 z1 z2 z3 z4 z5 z6 z7 l0 l1 hca hfa hs4 hLA4 hs3 hLA3 hLA hAR hAR3 HCl HB hBa haL hbL HF HL' HN Ham HC HL HW5 hch3 hch35 hch4 hch4a hch3a HL1 hch hLA3l
              have hbL : b < L1.length := by have := HL1l.out; omega
              have hs0 := HB1.out L1[b] (List.getElem_mem hbL)
              have hCb := HC5.out b hbL
              have hLb := Sts.get hLA5 hbL
              obtain ⟨sb, hsb⟩ : ∃ s, L1[b] = s := ⟨_, rfl⟩
              have Hsb := Lib.hid hsb
              rw [hsb] at hs0 hCb hLb
              clear hsb
              obtain ⟨bm, bc⟩ := sb
              simp only at hs0 hLb
              have hF : hearF sm [⟨sm, sc⟩] = 0 := by
                unfold hearF
                rw [if_neg (by omega), if_neg (by simp [isS]; omega), if_neg (by simp; omega)]
              obtain ⟨⟨nm, nc⟩, hM⟩ : ∃ s, maxS [⟨sm, sc⟩, ⟨bm, bc⟩] = s := ⟨_, rfl⟩
              have hL : hearL ⟨bm, bc⟩ sm [⟨sm, sc⟩] = ⟨nm, nc⟩ := by unfold hearL; rw [if_pos hF]; exact hM
              have hM2 : maxS [⟨bm, bc⟩, ⟨sm, sc⟩] = ⟨nm, nc⟩ := by rw [← hM]; exact maxS_two' _ _
              have hn : (nm = sm ∧ nc = sc) ∨ (nm = bm ∧ nc = bc) := by
                obtain ⟨s, hs, e⟩ := (maxS_spec [⟨sm, sc⟩, ⟨bm, bc⟩]).1 (by simp)
                rw [hM] at e
                subst e
                simpa using hs
              have HF := Lib.hid hF
              have HLL := Lib.hid hL
              have HM2 := Lib.hid hM2
              clear hF hL hM hM2
              have h5l := hs5.lt
              have h5L := hLA5.lt
              have h5R := hAR5.lt
              have h5C := hCb.lt
              have hcb : w5.cell? ⟨w.heap.size, b, none⟩ = some (.pointer (some ⟨P b, 0, none⟩)) := by
                have h012 : b = 0 ∨ b = 1 ∨ b = 2 := by omega
                clear hbI hb
                rcases h012 with h | h | h <;> subst h
                · exact hAR5.cell 0
                · exact hAR5.cell 1
                · exact hAR5.cell 2
              have hfb := hAR5.free b
              have z2 := hs5.cell 0
              have z3 := hs5.cell 1
              have z4 := hs5.free 0
              have z5 := hs5.free 1
              go_region_held3 (fun w' => w'.cell? ⟨w.heap.size, b, none⟩ = some (.pointer (some ⟨P b, 0, none⟩)) ∧ w'.cell? ⟨w3.heap.size, 0, none⟩ = some (.int .i64 sm) ∧ w'.cell? ⟨w3.heap.size, 1, none⟩ = some (.int .i64 sc)) (first | go_keep | exact ⟨hcb, z2, z3⟩)
                ((go_at_call 19; refine (hear_to _ (P b) ⟨bm, bc⟩ 1099511627776 sm _ _ _ [⟨sm, sc⟩] ?_ rfl ?_ ?_ (by simp) (by simp) HF.out HLL.out).mono ?_
                  · exact hCb.keep (((Chg.refl [] _).alloc (.cells #[.int .i64 sm, .int .i64 sc] 24)).drewN 1) (by simp)
                  · refine (Rd.new' ?_ rfl rfl).drewN 1; simp; done
                  · exact Away.at (by simp; omega)
                  rintro e w6 ⟨rfl, hC6, hch6a⟩
                  have hch6 : Chg [P b] w5 w6 := ((((Chg.refl [P b] _).alloc (.cells #[.int .i64 sm, .int .i64 sc] 24)).drewN 1).trans hch6a (by simp))
                  have hAR6 := hAR5.keep hch6 (by simp; omega)
                  have hs6 := hs5.keep hch6 (by simp; omega)
                  have hcb : w6.cell? ⟨w.heap.size, b, none⟩ = some (.pointer (some ⟨P b, 0, none⟩)) := (hch6.cell h5R (by simp; omega)).trans hcb
                  have z2 := hs6.cell 0
                  have z3 := hs6.cell 1
                  have z4 := hs6.free 0
                  have z5 := hs6.free 1))
              go_wp2_with (fail)
              have hLA6 := (show At w5 LA 40 (cS L1).toArray from hLA5).keep hch6 (by simp; omega)
              have h6l := hs6.lt
              have h6L := hLA6.lt
              have h6C := hC6.lt
              have h6R := hAR6.lt
              obtain ⟨y0, y1⟩ := Sts.get (l := L1) hLA6 hbL
              rw [Hsb.out] at y0 y1
              simp only at y0 y1
              have y2 := hLA6.free (b * 2)
              have y3 := hLA6.free (b * 2 + 1)
              go_region_law
                ((go_simp; go_at_call 22; refine (refMax_to _ _ _ _ [⟨bm, bc⟩, ⟨sm, sc⟩] HM2.out rfl ?_ (by simp)).mono ?_
                  · refine (Rd.new' ?_ rfl rfl).drewN 1; simp; done
                  rintro e w7 ⟨rfl, hch7a⟩
                  have hch7 : Chg [] w6 w7 := ((((Chg.refl [] _).alloc (.cells #[.int .i64 bm, .int .i64 bc, .int .i64 sm, .int .i64 sc] 24)).drewN 1).trans hch7a (by simp))
                  have hLA7 := hLA6.keep hch7 (by simp)
                  have y2 := hLA7.free (b * 2)
                  have y3 := hLA7.free (b * 2 + 1)
                  have hs7 := hs6.keep hch7 (by simp)
                  have z2 := hs7.cell 0
                  have z3 := hs7.cell 1
                  obtain ⟨y0, y1⟩ := Sts.get (l := L1) hLA7 hbL
                  rw [Hsb.out] at y0 y1
                  simp only at y0 y1))
              all_goals (go_wp2_with (fail); go_roundg (ps.length - (k + 1)); (case rel => exact ⟨k + 1, rfl, by omega, by omega, by go_num, talk_end HL1l.out HB1.out HC5.out hAR5 hLA5 hch5 hch6 hC6 hch7 HPl.out HPn.out hb3 (by rcases hn with ⟨e1, e2⟩ | ⟨e1, e2⟩ <;> subst e1 e2 <;> omega)⟩); (case measure => have := Hg.out; omega))
            · clear HCl HB
              by_cases hlt1 : k < ps.length
              · have hlt2 : ¬ k < qs.length := by omega
                go_wp2_with (go_at_call 16; refine (known_any _).mono ?_; rintro e w9 ⟨rfl, hch9⟩)
                go_ret
                exact ⟨rfl, hch.trans hch9 (by simp)⟩
              · go_wp2_with (go_at_call 16; refine (known_any _).mono ?_; rintro e w9 ⟨rfl, hch9⟩)
                go_ret
                exact ⟨rfl, hch.trans hch9 (by simp)⟩
end Go.Proofs.Ytaamdgimjbgeeaa
