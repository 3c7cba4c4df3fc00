
/-
  slices.Delete of one message under way.
-/
import Derived.Test.YtbgdcplbekoemaaRows
import Derived.Test.YtbgdcplbekoemaaClear
import Derived.Deep.RegionLaw
import Derived.Lib.SliceRun
namespace Go.Proofs.Ytbgdcplbekoemaa
open Go.RowKit
set_option linter.unusedVariables false

theorem info_und : (Try.prog.info? 59).map (fun i => (i.zero, i.size, i.bytes)) = some (some (.agg #[.int .i64 0, .int .i64 0, .slice none 0 0, .bool false]), 4, 48) := by kernel_rfl

/-- The elements behind the i-th one. -/
def behind (cur : List Value) (n i : Nat) : List Value := (cur.take (n * 4)).drop ((i + 1) * 4)
set_option maxRecDepth 100000 in
set_option maxHeartbeats 6400000 in
theorem delete_any (w : World) (g n c i : Nat) (cur : List Value) (hat : At w g 59 cur.toArray) (hsz : cur.length = c * 4) (hnc : n ≤ c) (hcm : c ≤ maxLen) (hn6 : n ≤ 1000000) (hi : i < n) (h1 : ∀ v ∈ cur.take (n * 4), v.oneCell' = true) :
    Calls Try.prog 39 #[.slice (some ⟨g, 0, none⟩) n c, .int .i64 i, .int .i64 ((i : Int) + 1)] w fun e w' => e = .returned (.slice (some ⟨g, 0, none⟩) (n - 1) c) ∧
      (∃ cur' : List Value, At w' g 59 cur'.toArray ∧ cur'.length = c * 4 ∧ cur'.take ((n - 1) * 4) = cur.take (i * 4) ++ behind cur n i) ∧ Chg [g] w w' := by
  obtain ⟨i0, hii, hz0, hz1, hz2⟩ := info_parts info_und
  unfold maxLen at hcm
  obtain ⟨m, HM⟩ : ∃ m, Hid (n = i + m + 1) := ⟨n - i - 1, by unfold Hid; omega⟩
  have hbl : (behind cur n i).length = (n - (i + 1)) * 4 := by
    unfold behind
    rw [List.length_drop, List.length_take, hsz, Nat.min_eq_left (Nat.mul_le_mul_right _ hnc), ← Nat.sub_mul]
  have hbg : ∀ j u, (behind cur n i)[j]? = some u → w.cell? ⟨g, (i + 1) * 4 + j, none⟩ = some u := fun j u hu => by
    rw [hat.cell]
    have hj : j < (n - (i + 1)) * 4 := by rw [← hbl]; exact (List.getElem?_eq_some_iff.1 hu).1
    unfold behind at hu
    rw [List.getElem?_drop, List.getElem?_take_of_lt (by omega)] at hu
    simpa using hu
  obtain ⟨AD, hA, hnews⟩ : ∃ AD : Addr, (if c = i + 1 then some (⟨g, 0, none⟩ : Addr) else some ⟨g, (i + 1) * 4, none⟩) = some AD ∧ Hid (∀ j u, (behind cur n i)[j]? = some u → w.drew.cell? (AD.add j) = some u) := by
    by_cases h : c = i + 1
    · refine ⟨⟨g, 0, none⟩, by simp [h], fun j u hu => ?_⟩
      have := (List.getElem?_eq_some_iff.1 hu).1
      rw [hbl] at this
      omega
    · refine ⟨⟨g, (i + 1) * 4, none⟩, by simp [h], fun j u hu => ?_⟩
      have e : (⟨g, (i + 1) * 4, none⟩ : Addr).add j = ⟨g, (i + 1) * 4 + j, none⟩ := by unfold Addr.add; split <;> simp_all
      rw [e]
      exact hbg j u hu
  have s1 : Hid ((behind cur n i).length = (n - (i + 1)) * 4) := hbl
  have s2 : Hid (∀ u ∈ behind cur n i, u.oneCell' = true) := fun u hu => h1 u (List.mem_of_mem_drop hu)
  have s3 : Hid (∀ j, j < (behind cur n i).length → (w.drew.cell? ⟨g, 0 + i * 4 + j, none⟩).isSome = true ∧ w.drew.frozen? ⟨g, 0 + i * 4 + j, none⟩ = false) := fun j hj => by
    rw [hbl] at hj
    refine ⟨?_, hat.free _⟩
    show (w.cell? _).isSome = true
    rw [hat.cell]
    simp
    omega
  have hwr : IntKind.i64.wrap ((i : Int) + 1) = (i : Int) + 1 := by rw [IntKind.wrap_i64]; omega
  have hp0 : (0 : Int) ≤ (i : Int) + 1 := by omega
  have hp1 : (i : Int) + 1 ≤ (n : Int) := by omega
  have hp2 : ((i : Int) + 1).toNat = i + 1 := by omega
  have hic : i ≤ c := by omega
  have HAT := Lib.hid hat
  have HSZ := Lib.hid hsz
  have HBL := Lib.hid hbl
  clear hbl hbg hat hsz h1
  go_enter Try.func39, Try.ntmps39
  go_wp2_with (fail)
  go_region_law (refine step_append_room rfl (.tmp 22) (.tmp 25) 54 rfl 59 i0 4 Try.underlying54 hii hz1 g 0 i c (by simp [Act.eval, Act.put]) AD (n - (i + 1)) (c - (i + 1)) (behind cur n i) (by simp [Act.eval, Act.put]) s1.out hnews.out s2.out (by omega) s3.out ?_)
  have hm := HM.out
  clear HM
  subst hm
  have hm0 : i + m + 1 - (i + 1) = m := by omega
  have hm1 : i + (i + m + 1 - (i + 1)) = i + m := by omega
  rw [hm0] at HBL
  have HA1 : Hid (At (w.drew.setCells g (i * 4) (behind cur (i + m + 1) i)) g 59 (cur.take (i * 4) ++ behind cur (i + m + 1) i ++ cur.drop (i * 4 + (behind cur (i + m + 1) i).length)).toArray) :=
    At.setCells _ _ (by rw [HBL.out, HSZ.out]; omega) (HAT.out.keep ((Chg.refl [] w).drew) (by simp))
  have HC1 : Hid (Chg [g] w (w.drew.setCells g (i * 4) (behind cur (i + m + 1) i))) := Chg.setCells _ _ ((Chg.refl _ w).drew) (.inl (by simp))
  obtain ⟨cur1, hcur1⟩ : ∃ cur1, Hid (cur.take (i * 4) ++ behind cur (i + m + 1) i ++ cur.drop (i * 4 + (behind cur (i + m + 1) i).length) = cur1) := ⟨_, rfl⟩
  rw [hcur1.out] at HA1
  have HL1 : Hid (cur1.length = c * 4) := by
    unfold Hid
    rw [← hcur1.out]
    simp only [List.length_append, List.length_take, List.length_drop, HBL.out, HSZ.out]
    omega
  have HT1 : Hid (cur1.take ((i + m) * 4) = cur.take (i * 4) ++ behind cur (i + m + 1) i) := by
    unfold Hid
    rw [← hcur1.out]
    refine List.take_left' ?_
    rw [List.length_append, List.length_take, HBL.out, HSZ.out]
    omega
  have hZl : (Builtin.zeroCells (Value.agg #[.int .i64 0, .int .i64 0, .slice none 0 0, .bool false]).cells 1).toList.length = 4 := by kernel_rfl
  have hZ1 : (Builtin.zeroCells (Value.agg #[.int .i64 0, .int .i64 0, .slice none 0 0, .bool false]).cells 1).toList.all (·.oneCell') = true := by kernel_rfl
  have hZs : (Value.agg #[.int .i64 0, .int .i64 0, .slice none 0 0, .bool false]).cells.size = 4 := by kernel_rfl
  have HZ := Lib.hid hZl
  have hrun := fun ty => run_clear (P := Try.prog) (w.drew.setCells g (i * 4) (behind cur (i + m + 1) i)) 54 59 ty Try.underlying54 _ (by simp [zeroValue, typeInfo, hii, hz0]) g ((i + m) * 4) 1 (c - (i + m)) (by omega)
    (fun j hj => by
      rw [HA1.out.cell]
      rw [hZs] at hj
      simp [HL1.out]
      omega) (fun j _ => HA1.out.free _) (fun v hv => List.all_eq_true.1 hZ1 v hv)
  have HRUN := Lib.hid hrun
  rw [hm1]
  clear hZl hZ1 hZs hrun hm0 hm1
  go_wp2_with (fail)
  rw [HRUN.out]
  go_wp2_with (fail)
  go_ret
  have hz := HZ.out
  have hA2 := At.setCells (Builtin.zeroCells (Value.agg #[.int .i64 0, .int .i64 0, .slice none 0 0, .bool false]).cells 1).toList ((i + m) * 4) (by rw [hz, HL1.out]; omega) HA1.out
  refine ⟨rfl, ⟨_, hA2, ?_, ?_⟩, Chg.setCells _ _ HC1.out (.inl (by simp))⟩
  · simp only [List.length_append, List.length_take, List.length_drop, hz, HL1.out]
    omega
  · rw [show (i + m + 1 - 1) * 4 = (i + m) * 4 by omega, ← HT1.out, List.append_assoc]
    refine List.take_left' ?_
    rw [List.length_take, HL1.out]
    omega

/-- .. of a row that is owned. -/
theorem delete_own (w : World) (base g n c i : Nat) (xs : List Value) (h : w.ownsRow base 59 4 (.slice (some ⟨g, 0, none⟩) n c) n xs) (hn6 : n ≤ 1000000) (hi : i < n) (h1 : ∀ v ∈ xs, v.oneCell' = true) :
    Calls Try.prog 39 #[.slice (some ⟨g, 0, none⟩) n c, .int .i64 i, .int .i64 ((i : Int) + 1)] w fun e w' => e = .returned (.slice (some ⟨g, 0, none⟩) (n - 1) c) ∧
      w'.ownsRow base 59 4 (.slice (some ⟨g, 0, none⟩) (n - 1) c) (n - 1) (xs.take (i * 4) ++ xs.drop ((i + 1) * 4)) ∧ Chg [g] w w' := by
  obtain ⟨hl, h2⟩ := h
  rcases h2 with ⟨h3, _⟩ | ⟨g', cap, cur, h3, hb, hh, hnc, hcm, hcs, htk⟩
  · cases h3
  injection h3 with h3 _ hcc
  injection h3 with h3
  injection h3 with h3
  subst h3 hcc
  have hat : At w g 59 cur.toList.toArray := by rw [Array.toArray_toList]; exact hh
  have htl : (cur.toList.take (i * 4)) = xs.take (i * 4) := by
    rw [← htk, List.take_take, Nat.min_eq_left (by omega)]
  refine (delete_any w g n c i cur.toList hat (by simpa using hcs) hnc hcm hn6 hi (by rw [htk]; exact h1)).mono ?_
  rintro e w' ⟨rfl, ⟨cur', hA, hL, hT⟩, hc⟩
  refine ⟨rfl, ⟨?_, .inr ⟨g, c, cur'.toArray, rfl, hb, hA, by omega, hcm, by simpa using hL, ?_⟩⟩, hc⟩
  · rw [List.length_append, List.length_take, List.length_drop, hl]; omega
  · rw [List.toList_toArray, hT, htl]
    unfold behind
    rw [htk]
end Go.Proofs.Ytbgdcplbekoemaa
