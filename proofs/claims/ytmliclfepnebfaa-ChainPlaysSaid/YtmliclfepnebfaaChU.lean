
/-
  chain: known.
-/
import Derived.Test.YtmliclfepnebfaaChT
namespace Go.Proofs.Ytmliclfepnebfaa
open Go.RowKit
set_option linter.unusedVariables false
set_option linter.unusedSimpArgs false
def kn0 : List VV := [⟨5, 0, 0, [97], false, 10⟩, ⟨7, 0, 0, [98], false, 0⟩]
theorem kn_of : ofR [] kn0 = (0, kn0) := by rfl
theorem kn_1 : getB kn0 ⟨6, 0⟩ = true ∧ getD kn0 ⟨6, 0⟩ = [97] ∧ getB kn0 ⟨4, 9⟩ = false ∧ trimN kn0 ⟨7, 0⟩ = 1 := ⟨by rfl, by rfl, by rfl, by rfl⟩
section
variable {T : TypeId} {w0 w w' : World} {gn : Nat} {l : List VV} {rs : List Res}
theorem ChA.row (h : ChA T w0 w gn l rs) (hc : Chg [] w w') {e : TypeId} {A : Option Addr} {n c : Nat} {xs : List Value} (ho : w'.ownsRow w.heap.size e 1 (.slice A n c) n xs) : ChA T w0 w' gn l (rRow 0 e A n c xs :: rs) := h.beside fun r H => H.row hc ho
theorem ChA.at_ (h : ChA T w0 w gn l rs) (i : Nat) {r : Res} (hi : rs[i]? = some r) : r.P w := by
  obtain ⟨A, c, ms, _, H⟩ := h
  exact H.get (i + 1) (by simpa using hi)
end
set_option maxRecDepth 100000 in
set_option maxHeartbeats 6400000 in
theorem known_any (w : World) : Calls Try.prog 13 #[] w fun e w' => e = .returned (.bool true) ∧ Chg [] w w' := by
  have kc := fun (w : World) (C : Array Value) (n c : Nat) => Lib.run_convert_bytes_const (P := Try.prog) w 26 5 C n c Try.underlying26 Try.underlying5
  have kd := fun (w : World) (o : Obj) (C : Array Value) (n c : Nat) => run_conv2 (P := Try.prog) w o 26 5 C n c Try.underlying26 Try.underlying5
  go_enter Try.func13, Try.ntmps13
  go_wp2_with (fail)
  obtain ⟨b0, hb0⟩ : ∃ b0, Hid (w.heap.size = b0) := ⟨_, Lib.hid rfl⟩
  have HL : Hid (Laid (((w.alloc (.cells #[.int .u8 97] 5 (1, 2))).alloc (.cells #[.int .u8 98] 5 (1, 2))).alloc (.cells #[.int .i64 5, .int .i64 0, .int .i64 0, .slice (some ⟨w.heap.size, 0, none⟩) 1 1, .bool false, .int .i64 10, .int .i64 7, .int .i64 0, .int .i64 0, .slice (some ⟨w.heap.size + 1, 0, none⟩) 1 1, .bool false, .int .i64 0] 28)) (some ⟨w.heap.size + 1 + 1, 0, none⟩) [⟨5, 0, 0, some ⟨w.heap.size, 0, none⟩, [97], 1, false, 10⟩, ⟨7, 0, 0, some ⟨w.heap.size + 1, 0, none⟩, [98], 1, false, 0⟩]) := by
    refine ⟨Rd.new' (by simp) rfl rfl, fun m hm => ?_, fun m hm => ?_, fun m hm => ?_⟩
    · rcases List.mem_cons.1 hm with rfl | hm
      · exact (Rd.alloc (Rd.alloc (Rd.new' rfl rfl rfl) _) _)
      · obtain rfl := List.mem_singleton.1 hm
        exact (Rd.alloc (Rd.new' (by simp) rfl rfl) _)
    · rcases List.mem_cons.1 hm with rfl | hm
      · show (1 : Nat) ≤ 1099511627776; decide
      · obtain rfl := List.mem_singleton.1 hm; show (1 : Nat) ≤ 1099511627776; decide
    · intro h
      rcases List.mem_cons.1 hm with rfl | hm
      · cases h
      · obtain rfl := List.mem_singleton.1 hm; cases h
  have HQ : Hid (Chg [] w (((w.alloc (.cells #[.int .u8 97] 5 (1, 2))).alloc (.cells #[.int .u8 98] 5 (1, 2))).alloc (.cells #[.int .i64 5, .int .i64 0, .int .i64 0, .slice (some ⟨w.heap.size, 0, none⟩) 1 1, .bool false, .int .i64 10, .int .i64 7, .int .i64 0, .int .i64 0, .slice (some ⟨w.heap.size + 1, 0, none⟩) 1 1, .bool false, .int .i64 0] 28))) := (((Chg.refl [] w).alloc _).alloc _).alloc _
  refine (ofC_any _ _ 2 [⟨5, 0, 0, some ⟨w.heap.size, 0, none⟩, [97], 1, false, 10⟩, ⟨7, 0, 0, some ⟨w.heap.size + 1, 0, none⟩, [98], 1, false, 0⟩] HL.out (by show (2 : Nat) ≤ 1000000; decide)).mono ?_
  clear HL
  rintro e w1 (⟨h0, gn, rfl, hA, hG, hl⟩ | ⟨h0, _⟩)
  rotate_left
  · exact absurd (congrArg Prod.fst kn_of) h0
  have hof : (ofR [] (List.map VrV.v [⟨5, 0, 0, some ⟨w.heap.size, 0, none⟩, [97], 1, false, 10⟩, ⟨7, 0, 0, some ⟨w.heap.size + 1, 0, none⟩, [98], 1, false, 0⟩])).2 = kn0 := congrArg Prod.snd kn_of
  rw [hof] at hA hG
  have HG := Lib.hid hG
  have HN := Lib.hid hA
  clear hG hA hl hof h0
  go_wp2_with (fail)
  refine (getC_all HN.out (by decide) HG.out.valid 6 0 (by omega)).mono ?_
  rw [kn_1.1, kn_1.2.1]
  rintro e w2 ⟨A2, c2, rfl, ho2, hc2⟩
  have HN2 := Lib.hid (HN.out.row hc2 ho2)
  clear HN ho2 hc2
  go_wp2_with (fail)
  refine (getC_all HN2.out (by decide) HG.out.valid 4 9 (by omega)).mono ?_
  rw [kn_1.2.2.1]
  rintro e w3 ⟨A3, c3, rfl, ho3, hc3⟩
  have HN3 := Lib.hid (HN2.out.quiet hc3)
  clear HN2 ho3 hc3
  go_wp2_with (fail)
  refine (trimC_all HN3.out (by decide) HG.out.valid 7 0 (by omega)).mono ?_
  rw [kn_1.2.2.2]
  rintro e w4 ⟨rfl, h4⟩
  have HN4 := Lib.hid h4
  clear HN3 h4
  have HRp := Lib.hid (Rd.of_own (HN4.out.at_ 0 rfl))
  go_wp2_with (fail)
  refine (same_any _ A2 (some ⟨w4.heap.size, 0, none⟩) 1 1 c2 1 [97] [97] rfl rfl (HRp.out.alloc _) (Rd.new' rfl rfl rfl) (by decide)).mono ?_
  rintro e w5 ⟨rfl, hc5⟩
  have HN5 := Lib.hid (HN4.out.quiet (((Chg.refl [] w4).alloc _).trans hc5 (by simp)))
  clear HN4 hc5
  go_wp2_with (fail)
  refine (allC_all HN5.out (by decide) (HG.out.drop 1).valid).mono ?_
  rintro e w6 ⟨A6, c6, ms6, rfl, hm6, H6⟩
  have hl6 : ms6.length = 1 := by have := congrArg List.length hm6; simpa [kn0] using this
  have HC6 : Hid (Chg [] w w6) := (HQ.out.trans HN5.out.chg (by simp)).trans H6.chg (by simp)
  clear HN5 H6 hm6
  rw [hl6]
  go_wp2_with (fail)
  go_ret
  exact ⟨rfl, HC6.out⟩
end Go.Proofs.Ytmliclfepnebfaa
