/-
  The greatest stamp: hlc.Max, the reference's Max.
-/
import Derived.Test.YtaamdgimjbgeeaaHlcC
import Derived.Test.YtaamdgimjbgeeaaHlcR
import Derived.Laws.Rows
namespace Go.Proofs.Ytaamdgimjbgeeaa
open Go.RowKit

/-- A stamp that stands in a slice. -/
theorem Rd.getS {w : World} {A : Option Addr} {n : Nat} {l : List St} (h : Rd w 2 A n (cS l)) {k : Nat} (hk : k < l.length) :
    ∃ ad, A = some ad ∧ ad.block < w.heap.size ∧ w.cell? (ad.add (k * 2)) = some (.int .i64 l[k].m) ∧ w.cell? ⟨(ad.add (k * 2)).block, (ad.add (k * 2)).off + 1, none⟩ = some (.int .i64 l[k].c) := by
  have hn : n = l.length := by have := h.len; rw [cS_len] at this; omega
  obtain ⟨ad, e, hb, hc⟩ := h.at_ (by omega)
  obtain ⟨h1, h2⟩ := cS_get hk
  exact ⟨ad, e, hb, hc _ _ h1, by have h3 := hc _ _ h2; rw [← add_add] at h3; exact h3⟩

theorem At.set2 {w : World} {g : Nat} {t : TypeId} {a b : Value} (h : At w g t #[a, b]) (u v : Value) : At ((w.setCell ⟨g, 0, none⟩ u).setCell ⟨g, 1, none⟩ v) g t #[u, v] := by
  simpa using (h.set_ 0 u).set_ 1 v
theorem At.set3 {w : World} {g : Nat} {t : TypeId} {a b c : Value} (h : At w g t #[a, b, c]) (u v : Value) : At ((w.setCell ⟨g, 0, none⟩ u).setCell ⟨g, 1, none⟩ v) g t #[u, v, c] := by
  simpa using (h.set_ 0 u).set_ 1 v
theorem Chg.set2 {S : List Nat} {w0 w : World} (h : Chg S w0 w) {g : Nat} (hg : g ∈ S ∨ w0.heap.size ≤ g) (u v : Value) : Chg S w0 ((w.setCell ⟨g, 0, none⟩ u).setCell ⟨g, 1, none⟩ v) :=
  (h.setCell (p := ⟨g, 0, none⟩) hg u).setCell (p := ⟨g, 1, none⟩) hg v
theorem At.st {w : World} {g : Nat} {T : TypeId} {a b : Value} (h : At w g T #[a, b]) : w.cell? ⟨g, 0, none⟩ = some a ∧ w.cell? ⟨g, 1, none⟩ = some b ∧ g < w.heap.size := ⟨h.cell 0, h.cell 1, h.lt⟩
theorem st_size : (Try.prog.info? 24).map (·.size) = some 2 := by kernel_rfl
/-- A stamp is handed back. -/
theorem ret_st {fn : Func} {p : Tmp} {tmps : Array Value} {w : World} {g : Nat} {T : TypeId} {m c : Int} {Post : Ending → World → Prop} (h : fn.results = #[.cell p 24])
    (hp : tmps.getD p undef = .pointer (some ⟨g, 0, none⟩)) (hg : At w g T #[.int .i64 m, .int .i64 c]) (hpost : Post (.returned (.agg #[.int .i64 m, .int .i64 c])) w) :
    bodyPost Try.prog fn Post Exit.ret ⟨tmps, []⟩ w :=
  bodyPost_ret (v := .agg #[.int .i64 m, .int .i64 c]) (results_cell_row h tmps w g T _ (0, 0) _ hp hg Try.underlying24 rfl st_size) rfl hpost

/-- A stamp and something else are handed back. -/
theorem ret_st2 {fn : Func} {p q : Tmp} {tmps : Array Value} {w : World} {g : Nat} {T : TypeId} {m c : Int} {v : Value} {Post : Ending → World → Prop} (h : fn.results = #[.cell p 24, .tmp q])
    (hp : tmps.getD p undef = .pointer (some ⟨g, 0, none⟩)) (hq : tmps.getD q undef = v) (hg : At w g T #[.int .i64 m, .int .i64 c]) (hpost : Post (.returned (.tuple #[.agg #[.int .i64 m, .int .i64 c], v])) w) :
    bodyPost Try.prog fn Post Exit.ret ⟨tmps, []⟩ w := by
  refine bodyPost_ret (v := .tuple #[.agg #[.int .i64 m, .int .i64 c], v]) ?_ rfl hpost
  have hp' : tmps[p]?.getD undef = .pointer (some ⟨g, 0, none⟩) := by simpa using hp
  have hq' : tmps[q]?.getD undef = v := by simpa using hq
  simp [results, h, hp', hq', asAddr, run_loadVar_row w g T 24 _ (0, 0) _ hg Try.underlying24 rfl st_size]

set_option maxHeartbeats 1600000 in
theorem max_any (w : World) (A : Option Addr) (n c : Nat) (l : List St) (hn : l.length = n) (hr : Rd w 2 A l.length (cS l)) (hl : l.length ≤ 4611686018427387904) :
    Calls Try.prog 14 #[.slice A n c] w fun e w' => e = .returned (.agg #[.int .i64 (maxS l).m, .int .i64 (maxS l).c]) ∧ Chg [] w w' := by
  subst hn
  go_enter Try.func14, Try.ntmps14
  go_wp2_with (fail)
  go_loopw [8] (fun i wr => ∃ k : Nat, k ≤ l.length ∧ i = .int .i64 k ∧ At wr w.heap.size 24 #[.int .i64 0, .int .i64 0] ∧ At wr (w.heap.size + 1) 24 #[.int .i64 (maxS (l.take k)).m, .int .i64 (maxS (l.take k)).c] ∧ Chg [] w wr) (fun i _ => l.length - (intOf i).toNat)
  case atStart => exact ⟨0, Nat.zero_le _, rfl, (At.new _ _ _).keep ((Chg.refl [] _).alloc _) (by simp), (by simpa [maxS, St.z] using At.new (w.alloc (.cells #[.int .i64 0, .int .i64 0] 24)) 24 #[.int .i64 0, .int .i64 0]), ((Chg.refl _ _).alloc _).alloc _⟩
  case round =>
    obtain ⟨k, hk, rfl, h2, h3, hch⟩ := hrel
    by_cases hlt : k < l.length
    · obtain ⟨ad, rfl, had, hc0, hc1⟩ := (hr.keep0 hch).getS hlt
      have HT : Hid (l.take (k + 1) = l.take k ++ [l[k]]) := List.take_succ_eq_append_getElem hlt
      generalize l[k] = s at *
      have hs1 := h3.lt
      have ha0 := h3.cell 0
      have ha1 := h3.cell 1
      have hf0 := h3.free 0
      have hf1 := h3.free 1
      by_cases hk0 : k = 0
      · have e0 : ((k : Int) == 0) = true := by simp [hk0]
        have HK := Lib.hid hk0
        clear hk0
        go_wp2_with (fail)
        go_roundw
        case rel =>
          have hm : maxS (l.take (k + 1)) = s := by rw [HT.out, HK.out]; rfl
          refine ⟨k + 1, by omega, by go_num, h2.keep (((Chg.refl [w.heap.size + 1] _).set2 (.inl (by simp)) _ _).alloc _) (by simp), ?_, (hch.set2 (.inr (by omega)) _ _).alloc _⟩
          rw [hm]
          exact (h3.set2 _ _).keep ((Chg.refl [] _).alloc _) (by simp)
        case measure => simp [intOf]; omega
      · have e0 : ((k : Int) == 0) = false := beq_eq_false_iff_ne.2 (by omega)
        go_wp2_with (fail)
        refine (compare_any _ _ _ _ _).mono ?_
        rintro e w3 ⟨rfl, hch3⟩
        have hchA : Chg [] wr w3 := ((Chg.refl [] _).alloc _).trans hch3 (by simp)
        have h23 := h2.keep hchA (by simp)
        have h33 := h3.keep hchA (by simp)
        have h53 := (At.new wr 24 #[.int .i64 s.m, .int .i64 s.c]).keep hch3 (by simp)
        have hb0 := h33.cell 0
        have hb1 := h33.cell 1
        have hg0 := h33.free 0
        have hg1 := h33.free 1
        have hd0 := h53.cell 0
        have hd1 := h53.cell 1
        have Hm : Hid (maxS (l.take (k + 1)) = maxS2 (maxS (l.take k)) s) := by unfold Hid; rw [HT.out, maxS_snoc (by simp; omega)]
        clear ha0 ha1 hf0 hf1 hk0
        by_cases hgt : 0 < cmpS ⟨s.m, s.c⟩ ⟨(maxS (l.take k)).m, (maxS (l.take k)).c⟩
        · have Hgt := Lib.hid hgt
          go_wp2_with (fail)
          go_roundw
          case rel =>
            have hm : maxS (l.take (k + 1)) = s := by rw [Hm.out]; unfold maxS2; rw [if_pos Hgt.out]
            refine ⟨k + 1, by omega, by go_num, h23.keep ((Chg.refl [w.heap.size + 1] _).set2 (.inl (by simp)) _ _) (by simp), ?_, (hch.trans hchA (by simp)).set2 (.inr (by omega)) _ _⟩
            rw [hm]
            exact h33.set2 _ _
          case measure => simp [intOf]; omega
        · have Hgt := Lib.hid hgt
          go_wp2_with (fail)
          go_roundw
          case rel =>
            have hm : maxS (l.take (k + 1)) = maxS (l.take k) := by rw [Hm.out]; unfold maxS2; exact if_neg (Int.not_lt.2 Hgt.out)
            refine ⟨k + 1, by omega, by go_num, h23, ?_, hch.trans hchA (by simp)⟩
            rw [hm]
            exact h33
          case measure => simp [intOf]; omega
    · obtain rfl : k = l.length := by omega
      have HT : Hid (l.take l.length = l) := by unfold Hid; rw [List.take_length]
      rw [HT.out] at h3
      have ha0 := h3.cell 0
      have ha1 := h3.cell 1
      have hb0 := h2.cell 0
      have hb1 := h2.cell 1
      have hf0 := h2.free 0
      have hf1 := h2.free 1
      go_wp2_with (fail)
      exact ret_st Try.results14 rfl (h2.set2 _ _) ⟨rfl, hch.set2 (.inr (by omega)) _ _⟩
end Go.Proofs.Ytaamdgimjbgeeaa
