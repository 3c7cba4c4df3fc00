
/-
  net: the answer that is known ahead.
-/
import Derived.Test.YtbgdcplbekoemaaNetN
namespace Go.Proofs.Ytbgdcplbekoemaa
open Go.RowKit
set_option linter.unusedVariables false

section
variable {w0 w : World} {gn g1 g2 g3 : Nat} {rs : List Res}
theorem NetA.drop0 {l : List MV} {rs : List Res} (h : NetA w0 w gn l rs) : NetA w0 w gn l [] := by
  induction rs with
  | nil => exact h
  | cons a rs ih => exact ih h.tail
theorem send_known (h : NetA w0 w gn [] (rAt g3 35 #[.int .i64 0, .int .i64 1, .slice (some ⟨g1, 0, none⟩) 1 1, .int .i64 0, .int .i64 2, .slice (some ⟨g2, 0, none⟩) 1 1] :: rRd g2 (cB [98]) :: rRd g1 (cB [97]) :: rs)) :
    Calls Try.prog 11 #[.pointer (some ⟨gn, 0, none⟩), .slice (some ⟨g3, 0, none⟩) 2 2] w fun e w' => e = .returned (.int .i64 2) ∧ NetA w0 w' gn [⟨0, 1, [97], false⟩, ⟨0, 2, [98], false⟩] [] ∧ w.heap.size ≤ w'.heap.size := by
  refine (send_all h (by simp) (some ⟨g3, 0, none⟩) 2 2 [⟨0, 1, [97], some ⟨g1, 0, none⟩, 1⟩, ⟨0, 2, [98], some ⟨g2, 0, none⟩, 1⟩] rfl (by simp) ?_).mono ?_
  · rintro w' hs ⟨l', h'⟩
    refine ⟨Rd.of_at (l := cMs [⟨0, 1, [97], some ⟨g1, 0, none⟩, 1⟩, ⟨0, 2, [98], some ⟨g2, 0, none⟩, 1⟩]) (h'.at_ 0 rfl) (cMs_len _), fun x hx => ?_⟩
    simp only [List.mem_cons, List.not_mem_nil, or_false] at hx
    rcases hx with rfl | rfl
    · exact ⟨h'.at_ 2 rfl, by simp, by simp⟩
    · exact ⟨h'.at_ 1 rfl, by simp, by simp⟩
  · rintro e w' ⟨rfl, h', hs⟩
    exact ⟨rfl, h'.drop0, hs⟩
theorem late_known (h : NetA w0 w gn [⟨0, 1, [97], false⟩, ⟨0, 2, [98], false⟩] rs) :
    Calls Try.prog 12 #[.pointer (some ⟨gn, 0, none⟩), .int .i64 0] w fun e w' => e = .returned (.bool true) ∧ NetA w0 w' gn [⟨0, 2, [98], false⟩, ⟨0, 1, [97], false⟩] rs ∧ w.heap.size ≤ w'.heap.size := by
  refine (late_all h (by simp) (fun m hm => ?_) 0).mono ?_
  · simp only [List.mem_cons, List.not_mem_nil, or_false] at hm
    rcases hm with rfl | rfl <;> simp
  · rintro e w' ⟨rfl, h', hs⟩
    exact ⟨rfl, h', hs⟩
end
set_option maxRecDepth 100000 in
set_option maxHeartbeats 3200000 in
theorem knownN_any (w : World) : Calls Try.prog 16 #[] w fun e w' => e = .returned (.bool true) ∧ Chg [] w w' := by
  have kc := fun (w : World) (C : Array Value) (n c : Nat) => Lib.run_convert_bytes_const (P := Try.prog) w 33 5 C n c Try.underlying33 Try.underlying5
  have kd := fun (w : World) (o : Obj) (C : Array Value) (n c : Nat) => run_conv2 (P := Try.prog) w o 33 5 C n c Try.underlying33 Try.underlying5
  go_enter Try.func16, Try.ntmps16
  go_wp2_with (fail)
  refine (new_all (All.start w)).mono ?_
  rintro e w1 ⟨gn, rfl, H1, hs1, hgn⟩
  have HN := Lib.hid H1
  clear H1
  go_wp2_with (fail)
  have H2 := ((HN.out.newRd 5 (cB [97]) (1, 2) rfl).newRd 5 (cB [98]) (1, 2) (g := w1.heap.size + 1) (by simp)).newAt 35 #[.int .i64 0, .int .i64 1, .slice (some ⟨w1.heap.size, 0, none⟩) 1 1, .int .i64 0, .int .i64 2, .slice (some ⟨w1.heap.size + 1, 0, none⟩) 1 1] (g := w1.heap.size + 1 + 1) (by simp)
  refine (send_known H2).mono ?_
  clear HN H2
  rintro e w2 ⟨rfl, H3, hs3⟩
  have HN := Lib.hid H3
  clear H3
  go_wp2_with (fail)
  refine (late_known HN.out).mono ?_
  rintro e w3 ⟨rfl, H4, hs4⟩
  clear HN
  have HN := Lib.hid H4
  clear H4
  go_wp2_with (fail)
  refine (give_all HN.out (by simp) (by simp) 0 0 rfl ⟨0, 2, [98], false⟩ rfl).mono ?_
  rintro e w4 ⟨B, c2, rfl, H5, hs5⟩
  clear HN
  have HN : Hid (NetA w w4 gn [⟨0, 1, [97], false⟩] [rRow 0 5 B 1 c2 (cB [98])]) := H5
  clear H5
  have q5 := ((Chg.refl [] w4).alloc (.cells #[.int .i64 0, .int .i64 2, .slice B 1 c2] 35)).alloc (.cells #[.int .u8 98] 5 (1, 2))
  have z4 := At.new w4 35 #[.int .i64 0, .int .i64 2, .slice B 1 c2]
  have u0 := z4.cell 0
  have u1 := z4.cell 1
  have u2 := z4.cell 2
  simp only [List.getElem?_toArray, List.getElem?_cons_zero, List.getElem?_cons_succ] at u0 u1 u2
  go_wp2_with (fail)
  refine (same_any _ B _ 1 1 c2 1 [98] [98] rfl rfl ((Rd.of_own (HN.out.at_ 0 rfl)).keep0 q5) (Rd.new' (by simp) rfl rfl) (by simp)).mono ?_
  rintro e w5 ⟨he, hc5⟩
  obtain rfl : e = .returned (.bool true) := he.trans (by rfl)
  have H6 := Lib.hid ((HN.out.quiet q5).quiet hc5)
  clear HN q5 hc5 he z4 u0 u1 u2
  go_wp2_with (fail)
  refine (len_all H6.out).mono ?_
  rintro e w6 ⟨rfl, rfl⟩
  go_wp2_with (fail)
  go_ret
  exact ⟨rfl, H6.out.chg⟩
end Go.Proofs.Ytbgdcplbekoemaa
