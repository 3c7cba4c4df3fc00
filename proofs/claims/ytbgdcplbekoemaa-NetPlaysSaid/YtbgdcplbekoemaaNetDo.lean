
/-
  net: the law's 'does': each act but sending.
-/
import Derived.Test.YtbgdcplbekoemaaNetTw
import Derived.Test.YtbgdcplbekoemaaSameL
import Derived.Deep.CutBlock
import Derived.Deep.DeepCutAuto
namespace Go.Proofs.Ytbgdcplbekoemaa
open Go.RowKit
set_option linter.unusedVariables false
set_option linter.unusedSimpArgs false
section
variable {w0 w w' : World} {gn gx : Nat} {l : List MV} {rs : List Res}
set_option maxRecDepth 100000 in
set_option maxHeartbeats 3200000 in
theorem does3 (h : Tw w0 w gn gx l l rs) (hI : NInv l) (n m : Int) (b : UInt8) (A : Option Addr) (c : Nat) (ls : List MsgV) :
    Calls Try.prog 21 #[.pointer (some ⟨gn, 0, none⟩), .pointer (some ⟨gx, 0, none⟩), .agg #[.int .i64 3, .int .i64 n, .int .i64 m, .int .u8 (b.toNat : Int), .slice A ls.length c]] w fun e w' => e = .returned (.bool true) ∧ Tw w0 w' gn gx (twiceL l n) (twiceL l n) rs ∧ w.heap.size ≤ w'.heap.size := by
  have hsz0 : w.heap.size ≤ (w.alloc (.cells #[.int .i64 3, .int .i64 n, .int .i64 m, .int .u8 (b.toNat : Int), .slice A ls.length c] 26)).heap.size := by simp
  have HB := Lib.hid (h.newAt 26 #[.int .i64 3, .int .i64 n, .int .i64 m, .int .u8 (b.toNat : Int), .slice A ls.length c] rfl)
  have HI := Lib.hid hI
  clear h hI
  obtain ⟨r, HR⟩ : ∃ r, Hid (decide (0 < l.length ∧ l.length < 1024) = r) := ⟨_, rfl⟩
  obtain ⟨l', HL⟩ : ∃ l', Hid (twiceL l n = l') := ⟨_, rfl⟩
  have C1 := Lib.hid (fun w rs (h : NetA w0 w gn l rs) => twice_all h HI.out.len HI.out.big n)
  have C2 := Lib.hid (fun w rs (h : RefA w0 w gx l rs) => rtwice_all h HI.out.len HI.out.big n)
  rw [HR.out, HL.out] at C1 C2
  rw [HL.out]
  go_enter Try.func21, Try.ntmps21
  have x0 := (HB.out.get 0 rfl).cell 0
  simp only [List.getElem?_toArray, List.getElem?_cons_zero] at x0
  go_wp2_with (fail)
  generalize w.alloc (.cells #[.int .i64 3, .int .i64 n, .int .i64 m, .int .u8 (b.toNat : Int), .slice A ls.length c] 26) = ws at *
  generalize hgb : w.heap.size = gb at *
  clear x0
  have KS : Hid (∀ {l1 l2} w', Tw w0 w' gn gx l1 l2 (rAt gb 26 #[.int .i64 3, .int .i64 n, .int .i64 m, .int .u8 (b.toNat : Int), .slice A ls.length c] :: rs) → w'.cell? ⟨gb, 1, none⟩ = some (.int .i64 n)) := fun w' h => (h.get 0 rfl).cell 1
  refine wp_regionE 9 (fun w' => w'.cell? ⟨gb, 1, none⟩ = some (.int .i64 n)) (by kernel_rfl) ?_ (fun hHeld => ?_)
  · exact KS.out _ (HB.out.quiet ((Chg.refl [] ws).drew))
  have HT0 := Lib.hid (HB.out.quiet ((Chg.refl [] ws).drew))
  have HSZ0 : Hid (gb ≤ ws.drew.heap.size) := Nat.le_trans hsz0 ((Chg.refl [] ws).drew).size
  generalize ws.drew = v0 at *
  refine takeWE (i := 0) (d := (some 122)) (v := ?_) rfl rfl (by kernel_rfl) (by kernel_rfl) (by kernel_rfl) (by kernel_rfl) (by kernel_rfl) (fun _ _ _ h => h) (by rfl) ?_ (by assumption) ?_
  rotate_left
  · intro w' hSw; (try dsimp only at hSw); go_simp; try with_reducible rfl
  try simp only [Act.put, List.setIfInBounds_toArray, List.set_cons_zero, List.set_cons_succ]
  refine takeWE (i := 1) (d := (some 123)) (v := ?_) rfl rfl (by kernel_rfl) (by kernel_rfl) (by kernel_rfl) (by kernel_rfl) (by kernel_rfl) (fun _ _ _ h => h) (by rfl) ?_ (by assumption) ?_
  rotate_left
  · intro w' hSw; (try dsimp only at hSw); go_simp; try with_reducible rfl
  try simp only [Act.put, List.setIfInBounds_toArray, List.set_cons_zero, List.set_cons_succ]
  refine takeWE (i := 2) (d := (some 124)) (v := ?_) rfl rfl (by kernel_rfl) (by kernel_rfl) (by kernel_rfl) (by kernel_rfl) (by kernel_rfl) (fun _ _ _ h => h) (by rfl) ?_ (by assumption) ?_
  rotate_left
  · intro w' hSw; (try dsimp only at hSw); go_simp; try with_reducible rfl
  try simp only [Act.put, List.setIfInBounds_toArray, List.set_cons_zero, List.set_cons_succ]
  refine takeWE (i := 4) (d := (some 126)) (v := ?_) rfl rfl (by kernel_rfl) (by kernel_rfl) (by kernel_rfl) (by kernel_rfl) (by kernel_rfl) (fun _ _ _ h => h) (by rfl) ?_ (by assumption) ?_
  rotate_left
  · intro w' hSw; (try dsimp only at hSw); go_simp; try with_reducible rfl
  try simp only [Act.put, List.setIfInBounds_toArray, List.set_cons_zero, List.set_cons_succ]
  refine takeWE (i := 5) (d := (some 127)) (v := ?_) rfl rfl (by kernel_rfl) (by kernel_rfl) (by kernel_rfl) (by kernel_rfl) (by kernel_rfl) (fun _ _ _ h => h) (by rfl) ?_ (by assumption) ?_
  rotate_left
  · intro w' hSw; (try dsimp only at hSw); go_simp; try with_reducible rfl
  try simp only [Act.put, List.setIfInBounds_toArray, List.set_cons_zero, List.set_cons_succ]
  refine takeWE (i := 6) (d := (some 128)) (v := ?_) rfl rfl (by kernel_rfl) (by kernel_rfl) (by kernel_rfl) (by kernel_rfl) (by kernel_rfl) (fun _ _ _ h => h) (by rfl) ?_ (by assumption) ?_
  rotate_left
  · intro w' hSw; (try dsimp only at hSw); go_simp; try with_reducible rfl
  try simp only [Act.put, List.setIfInBounds_toArray, List.set_cons_zero, List.set_cons_succ]
  refine wpE_ready (rs := [3]) (by kernel_rfl) (by simp) ?_
  refine AllE.cons rfl (fun K hK => ?_) (AllE.nil)
  go_simp
  go_at_call 17
  (with_reducible refine (HT0.out.code (C1.out _)).mono ?_)
  rintro e v1 ⟨rfl, hB, hS⟩
  have HT1 := Lib.hid hB
  have HSZ1 := Lib.hid (Nat.le_trans HSZ0.out hS)
  clear hB hS
  go_wp2_with (fail)
  refine hK.out _ _ ?_ (fun hHeld => ?_)
  · exact KS.out _ HT1.out
  clear hK K
  try simp only [Act.put, List.setIfInBounds_toArray, List.set_cons_zero, List.set_cons_succ]
  refine wpE_ready (rs := [7]) (by kernel_rfl) (by simp) ?_
  refine AllE.cons rfl (fun K hK => ?_) (AllE.nil)
  go_simp
  go_at_call 31
  (with_reducible refine (HT1.out.refc (C2.out _)).mono ?_)
  rintro e v2 ⟨rfl, hB, hS⟩
  have HT2 := Lib.hid hB
  have HSZ2 := Lib.hid (Nat.le_trans HSZ1.out hS)
  clear hB hS
  go_wp2_with (fail)
  refine hK.out _ _ ?_ (fun hHeld => ?_)
  · exact KS.out _ HT2.out
  clear hK K
  try simp only [Act.put, List.setIfInBounds_toArray, List.set_cons_zero, List.set_cons_succ]
  refine takeWE (i := 8) (d := (some 130)) (v := ?_) rfl rfl (by kernel_rfl) (by kernel_rfl) (by kernel_rfl) (by kernel_rfl) (by kernel_rfl) (fun _ _ _ h => h) (by rfl) ?_ (by assumption) ?_
  rotate_left
  · intro w' hSw; (try dsimp only at hSw); go_simp; try with_reducible rfl
  try simp only [Act.put, List.setIfInBounds_toArray, List.set_cons_zero, List.set_cons_succ]
  refine wpE_ready (rs := [9]) (by kernel_rfl) (by simp) ?_
  refine AllE.last rfl (by kernel_rfl) (fun K hK => ?_)
  go_simp
  go_wp2_with (fail)
  refine hK.out _ _ ?_
  clear hK K hHeld
  go_wp2_with (fail)
  go_ret
  exact ⟨rfl, HT2.out.tail, by rw [hgb]; exact HSZ2.out⟩
set_option maxRecDepth 100000 in
set_option maxHeartbeats 3200000 in
theorem does4 (h : Tw w0 w gn gx l l rs) (hI : NInv l) (n m : Int) (b : UInt8) (A : Option Addr) (c : Nat) (ls : List MsgV) :
    Calls Try.prog 21 #[.pointer (some ⟨gn, 0, none⟩), .pointer (some ⟨gx, 0, none⟩), .agg #[.int .i64 4, .int .i64 n, .int .i64 m, .int .u8 (b.toNat : Int), .slice A ls.length c]] w fun e w' => e = .returned (.bool true) ∧ Tw w0 w' gn gx (lateL l n) (lateL l n) rs ∧ w.heap.size ≤ w'.heap.size := by
  have hsz0 : w.heap.size ≤ (w.alloc (.cells #[.int .i64 4, .int .i64 n, .int .i64 m, .int .u8 (b.toNat : Int), .slice A ls.length c] 26)).heap.size := by simp
  have HB := Lib.hid (h.newAt 26 #[.int .i64 4, .int .i64 n, .int .i64 m, .int .u8 (b.toNat : Int), .slice A ls.length c] rfl)
  have HI := Lib.hid hI
  clear h hI
  obtain ⟨r, HR⟩ : ∃ r, Hid (decide (0 < l.length) = r) := ⟨_, rfl⟩
  obtain ⟨l', HL⟩ : ∃ l', Hid (lateL l n = l') := ⟨_, rfl⟩
  have C1 := Lib.hid (fun w rs (h : NetA w0 w gn l rs) => late_all h HI.out.len HI.out.big n)
  have C2 := Lib.hid (fun w rs (h : RefA w0 w gx l rs) => rlate_all h HI.out.len n)
  rw [HR.out, HL.out] at C1 C2
  rw [HL.out]
  go_enter Try.func21, Try.ntmps21
  have x0 := (HB.out.get 0 rfl).cell 0
  simp only [List.getElem?_toArray, List.getElem?_cons_zero] at x0
  go_wp2_with (fail)
  generalize w.alloc (.cells #[.int .i64 4, .int .i64 n, .int .i64 m, .int .u8 (b.toNat : Int), .slice A ls.length c] 26) = ws at *
  generalize hgb : w.heap.size = gb at *
  clear x0
  have KS : Hid (∀ {l1 l2} w', Tw w0 w' gn gx l1 l2 (rAt gb 26 #[.int .i64 4, .int .i64 n, .int .i64 m, .int .u8 (b.toNat : Int), .slice A ls.length c] :: rs) → w'.cell? ⟨gb, 1, none⟩ = some (.int .i64 n)) := fun w' h => (h.get 0 rfl).cell 1
  refine wp_regionE 9 (fun w' => w'.cell? ⟨gb, 1, none⟩ = some (.int .i64 n)) (by kernel_rfl) ?_ (fun hHeld => ?_)
  · exact KS.out _ (HB.out.quiet ((Chg.refl [] ws).drew))
  have HT0 := Lib.hid (HB.out.quiet ((Chg.refl [] ws).drew))
  have HSZ0 : Hid (gb ≤ ws.drew.heap.size) := Nat.le_trans hsz0 ((Chg.refl [] ws).drew).size
  generalize ws.drew = v0 at *
  refine takeWE (i := 0) (d := (some 133)) (v := ?_) rfl rfl (by kernel_rfl) (by kernel_rfl) (by kernel_rfl) (by kernel_rfl) (by kernel_rfl) (fun _ _ _ h => h) (by rfl) ?_ (by assumption) ?_
  rotate_left
  · intro w' hSw; (try dsimp only at hSw); go_simp; try with_reducible rfl
  try simp only [Act.put, List.setIfInBounds_toArray, List.set_cons_zero, List.set_cons_succ]
  refine takeWE (i := 1) (d := (some 134)) (v := ?_) rfl rfl (by kernel_rfl) (by kernel_rfl) (by kernel_rfl) (by kernel_rfl) (by kernel_rfl) (fun _ _ _ h => h) (by rfl) ?_ (by assumption) ?_
  rotate_left
  · intro w' hSw; (try dsimp only at hSw); go_simp; try with_reducible rfl
  try simp only [Act.put, List.setIfInBounds_toArray, List.set_cons_zero, List.set_cons_succ]
  refine takeWE (i := 2) (d := (some 135)) (v := ?_) rfl rfl (by kernel_rfl) (by kernel_rfl) (by kernel_rfl) (by kernel_rfl) (by kernel_rfl) (fun _ _ _ h => h) (by rfl) ?_ (by assumption) ?_
  rotate_left
  · intro w' hSw; (try dsimp only at hSw); go_simp; try with_reducible rfl
  try simp only [Act.put, List.setIfInBounds_toArray, List.set_cons_zero, List.set_cons_succ]
  refine takeWE (i := 4) (d := (some 137)) (v := ?_) rfl rfl (by kernel_rfl) (by kernel_rfl) (by kernel_rfl) (by kernel_rfl) (by kernel_rfl) (fun _ _ _ h => h) (by rfl) ?_ (by assumption) ?_
  rotate_left
  · intro w' hSw; (try dsimp only at hSw); go_simp; try with_reducible rfl
  try simp only [Act.put, List.setIfInBounds_toArray, List.set_cons_zero, List.set_cons_succ]
  refine takeWE (i := 5) (d := (some 138)) (v := ?_) rfl rfl (by kernel_rfl) (by kernel_rfl) (by kernel_rfl) (by kernel_rfl) (by kernel_rfl) (fun _ _ _ h => h) (by rfl) ?_ (by assumption) ?_
  rotate_left
  · intro w' hSw; (try dsimp only at hSw); go_simp; try with_reducible rfl
  try simp only [Act.put, List.setIfInBounds_toArray, List.set_cons_zero, List.set_cons_succ]
  refine takeWE (i := 6) (d := (some 139)) (v := ?_) rfl rfl (by kernel_rfl) (by kernel_rfl) (by kernel_rfl) (by kernel_rfl) (by kernel_rfl) (fun _ _ _ h => h) (by rfl) ?_ (by assumption) ?_
  rotate_left
  · intro w' hSw; (try dsimp only at hSw); go_simp; try with_reducible rfl
  try simp only [Act.put, List.setIfInBounds_toArray, List.set_cons_zero, List.set_cons_succ]
  refine wpE_ready (rs := [3]) (by kernel_rfl) (by simp) ?_
  refine AllE.cons rfl (fun K hK => ?_) (AllE.nil)
  go_simp
  go_at_call 12
  (with_reducible refine (HT0.out.code (C1.out _)).mono ?_)
  rintro e v1 ⟨rfl, hB, hS⟩
  have HT1 := Lib.hid hB
  have HSZ1 := Lib.hid (Nat.le_trans HSZ0.out hS)
  clear hB hS
  go_wp2_with (fail)
  refine hK.out _ _ ?_ (fun hHeld => ?_)
  · exact KS.out _ HT1.out
  clear hK K
  try simp only [Act.put, List.setIfInBounds_toArray, List.set_cons_zero, List.set_cons_succ]
  refine wpE_ready (rs := [7]) (by kernel_rfl) (by simp) ?_
  refine AllE.cons rfl (fun K hK => ?_) (AllE.nil)
  go_simp
  go_at_call 32
  (with_reducible refine (HT1.out.refc (C2.out _)).mono ?_)
  rintro e v2 ⟨rfl, hB, hS⟩
  have HT2 := Lib.hid hB
  have HSZ2 := Lib.hid (Nat.le_trans HSZ1.out hS)
  clear hB hS
  go_wp2_with (fail)
  refine hK.out _ _ ?_ (fun hHeld => ?_)
  · exact KS.out _ HT2.out
  clear hK K
  try simp only [Act.put, List.setIfInBounds_toArray, List.set_cons_zero, List.set_cons_succ]
  refine takeWE (i := 8) (d := (some 141)) (v := ?_) rfl rfl (by kernel_rfl) (by kernel_rfl) (by kernel_rfl) (by kernel_rfl) (by kernel_rfl) (fun _ _ _ h => h) (by rfl) ?_ (by assumption) ?_
  rotate_left
  · intro w' hSw; (try dsimp only at hSw); go_simp; try with_reducible rfl
  try simp only [Act.put, List.setIfInBounds_toArray, List.set_cons_zero, List.set_cons_succ]
  refine wpE_ready (rs := [9]) (by kernel_rfl) (by simp) ?_
  refine AllE.last rfl (by kernel_rfl) (fun K hK => ?_)
  go_simp
  go_wp2_with (fail)
  refine hK.out _ _ ?_
  clear hK K hHeld
  go_wp2_with (fail)
  go_ret
  exact ⟨rfl, HT2.out.tail, by rw [hgb]; exact HSZ2.out⟩
set_option maxRecDepth 100000 in
set_option maxHeartbeats 3200000 in
theorem does5 (h : Tw w0 w gn gx l l rs) (hI : NInv l) (n m : Int) (b : UInt8) (A : Option Addr) (c : Nat) (ls : List MsgV) :
    Calls Try.prog 21 #[.pointer (some ⟨gn, 0, none⟩), .pointer (some ⟨gx, 0, none⟩), .agg #[.int .i64 5, .int .i64 n, .int .i64 m, .int .u8 (b.toNat : Int), .slice A ls.length c]] w fun e w' => e = .returned (.bool true) ∧ Tw w0 w' gn gx (spoilLs l n m b) (spoilLs l n m b) rs ∧ w.heap.size ≤ w'.heap.size := by
  have hsz0 : w.heap.size ≤ (w.alloc (.cells #[.int .i64 5, .int .i64 n, .int .i64 m, .int .u8 (b.toNat : Int), .slice A ls.length c] 26)).heap.size := by simp
  have HB := Lib.hid (h.newAt 26 #[.int .i64 5, .int .i64 n, .int .i64 m, .int .u8 (b.toNat : Int), .slice A ls.length c] rfl)
  have HI := Lib.hid hI
  clear h hI
  obtain ⟨r, HR⟩ : ∃ r, Hid (spoilOk l n b = r) := ⟨_, rfl⟩
  obtain ⟨l', HL⟩ : ∃ l', Hid (spoilLs l n m b = l') := ⟨_, rfl⟩
  have C1 := Lib.hid (fun w rs (h : NetA w0 w gn l rs) => spoil_all h n m b)
  have C2 := Lib.hid (fun w rs (h : RefA w0 w gx l rs) => rspoil_all h HI.out.big n m b)
  rw [HR.out, HL.out] at C1 C2
  rw [HL.out]
  go_enter Try.func21, Try.ntmps21
  have x0 := (HB.out.get 0 rfl).cell 0
  simp only [List.getElem?_toArray, List.getElem?_cons_zero] at x0
  go_wp2_with (fail)
  generalize w.alloc (.cells #[.int .i64 5, .int .i64 n, .int .i64 m, .int .u8 (b.toNat : Int), .slice A ls.length c] 26) = ws at *
  generalize hgb : w.heap.size = gb at *
  clear x0
  have KS : Hid (∀ {l1 l2} w', Tw w0 w' gn gx l1 l2 (rAt gb 26 #[.int .i64 5, .int .i64 n, .int .i64 m, .int .u8 (b.toNat : Int), .slice A ls.length c] :: rs) → w'.cell? ⟨gb, 1, none⟩ = some (.int .i64 n) ∧ w'.cell? ⟨gb, 2, none⟩ = some (.int .i64 m) ∧ w'.cell? ⟨gb, 3, none⟩ = some (.int .u8 (b.toNat : Int))) := fun w' h => ⟨(h.get 0 rfl).cell 1, (h.get 0 rfl).cell 2, (h.get 0 rfl).cell 3⟩
  refine wp_regionE 17 (fun w' => w'.cell? ⟨gb, 1, none⟩ = some (.int .i64 n) ∧ w'.cell? ⟨gb, 2, none⟩ = some (.int .i64 m) ∧ w'.cell? ⟨gb, 3, none⟩ = some (.int .u8 (b.toNat : Int))) (by kernel_rfl) ?_ (fun hHeld => ?_)
  · exact KS.out _ (HB.out.quiet ((Chg.refl [] ws).drew))
  have HT0 := Lib.hid (HB.out.quiet ((Chg.refl [] ws).drew))
  have HSZ0 : Hid (gb ≤ ws.drew.heap.size) := Nat.le_trans hsz0 ((Chg.refl [] ws).drew).size
  generalize ws.drew = v0 at *
  refine takeWE (i := 0) (d := (some 144)) (v := ?_) rfl rfl (by kernel_rfl) (by kernel_rfl) (by kernel_rfl) (by kernel_rfl) (by kernel_rfl) (fun _ _ _ h => h) (by rfl) ?_ (by assumption) ?_
  rotate_left
  · intro w' hSw; (try dsimp only at hSw); go_simp; try with_reducible rfl
  try simp only [Act.put, List.setIfInBounds_toArray, List.set_cons_zero, List.set_cons_succ]
  refine takeWE (i := 1) (d := (some 145)) (v := ?_) rfl rfl (by kernel_rfl) (by kernel_rfl) (by kernel_rfl) (by kernel_rfl) (by kernel_rfl) (fun _ _ _ h => h) (by rfl) ?_ (by assumption) ?_
  rotate_left
  · intro w' hSw; (try dsimp only at hSw); go_simp; try with_reducible rfl
  try simp only [Act.put, List.setIfInBounds_toArray, List.set_cons_zero, List.set_cons_succ]
  refine takeWE (i := 2) (d := (some 146)) (v := ?_) rfl rfl (by kernel_rfl) (by kernel_rfl) (by kernel_rfl) (by kernel_rfl) (by kernel_rfl) (fun _ _ _ h => h) (by rfl) ?_ (by assumption) ?_
  rotate_left
  · intro w' hSw; (try dsimp only at hSw); go_simp; try with_reducible rfl
  try simp only [Act.put, List.setIfInBounds_toArray, List.set_cons_zero, List.set_cons_succ]
  refine takeWE (i := 3) (d := (some 147)) (v := ?_) rfl rfl (by kernel_rfl) (by kernel_rfl) (by kernel_rfl) (by kernel_rfl) (by kernel_rfl) (fun _ _ _ h => h) (by rfl) ?_ (by assumption) ?_
  rotate_left
  · intro w' hSw; (try dsimp only at hSw); go_simp; try with_reducible rfl
  try simp only [Act.put, List.setIfInBounds_toArray, List.set_cons_zero, List.set_cons_succ]
  refine takeWE (i := 4) (d := (some 148)) (v := ?_) rfl rfl (by kernel_rfl) (by kernel_rfl) (by kernel_rfl) (by kernel_rfl) (by kernel_rfl) (fun _ _ _ h => h) (by rfl) ?_ (by assumption) ?_
  rotate_left
  · intro w' hSw; (try dsimp only at hSw); go_simp; try with_reducible rfl
  try simp only [Act.put, List.setIfInBounds_toArray, List.set_cons_zero, List.set_cons_succ]
  refine takeWE (i := 5) (d := (some 149)) (v := ?_) rfl rfl (by kernel_rfl) (by kernel_rfl) (by kernel_rfl) (by kernel_rfl) (by kernel_rfl) (fun _ _ _ h => h) (by rfl) ?_ (by assumption) ?_
  rotate_left
  · intro w' hSw; (try dsimp only at hSw); go_simp; try with_reducible rfl
  try simp only [Act.put, List.setIfInBounds_toArray, List.set_cons_zero, List.set_cons_succ]
  refine takeWE (i := 6) (d := (some 150)) (v := ?_) rfl rfl (by kernel_rfl) (by kernel_rfl) (by kernel_rfl) (by kernel_rfl) (by kernel_rfl) (fun _ _ _ h => h) (by rfl) ?_ (by assumption) ?_
  rotate_left
  · intro w' hSw; (try dsimp only at hSw); go_simp; try with_reducible rfl
  try simp only [Act.put, List.setIfInBounds_toArray, List.set_cons_zero, List.set_cons_succ]
  refine takeWE (i := 8) (d := (some 152)) (v := ?_) rfl rfl (by kernel_rfl) (by kernel_rfl) (by kernel_rfl) (by kernel_rfl) (by kernel_rfl) (fun _ _ _ h => h) (by rfl) ?_ (by assumption) ?_
  rotate_left
  · intro w' hSw; (try dsimp only at hSw); go_simp; try with_reducible rfl
  try simp only [Act.put, List.setIfInBounds_toArray, List.set_cons_zero, List.set_cons_succ]
  refine takeWE (i := 9) (d := (some 153)) (v := ?_) rfl rfl (by kernel_rfl) (by kernel_rfl) (by kernel_rfl) (by kernel_rfl) (by kernel_rfl) (fun _ _ _ h => h) (by rfl) ?_ (by assumption) ?_
  rotate_left
  · intro w' hSw; (try dsimp only at hSw); go_simp; try with_reducible rfl
  try simp only [Act.put, List.setIfInBounds_toArray, List.set_cons_zero, List.set_cons_succ]
  refine takeWE (i := 10) (d := (some 154)) (v := ?_) rfl rfl (by kernel_rfl) (by kernel_rfl) (by kernel_rfl) (by kernel_rfl) (by kernel_rfl) (fun _ _ _ h => h) (by rfl) ?_ (by assumption) ?_
  rotate_left
  · intro w' hSw; (try dsimp only at hSw); go_simp; try with_reducible rfl
  try simp only [Act.put, List.setIfInBounds_toArray, List.set_cons_zero, List.set_cons_succ]
  refine takeWE (i := 11) (d := (some 155)) (v := ?_) rfl rfl (by kernel_rfl) (by kernel_rfl) (by kernel_rfl) (by kernel_rfl) (by kernel_rfl) (fun _ _ _ h => h) (by rfl) ?_ (by assumption) ?_
  rotate_left
  · intro w' hSw; (try dsimp only at hSw); go_simp; try with_reducible rfl
  try simp only [Act.put, List.setIfInBounds_toArray, List.set_cons_zero, List.set_cons_succ]
  refine takeWE (i := 12) (d := (some 156)) (v := ?_) rfl rfl (by kernel_rfl) (by kernel_rfl) (by kernel_rfl) (by kernel_rfl) (by kernel_rfl) (fun _ _ _ h => h) (by rfl) ?_ (by assumption) ?_
  rotate_left
  · intro w' hSw; (try dsimp only at hSw); go_simp; try with_reducible rfl
  try simp only [Act.put, List.setIfInBounds_toArray, List.set_cons_zero, List.set_cons_succ]
  refine takeWE (i := 13) (d := (some 157)) (v := ?_) rfl rfl (by kernel_rfl) (by kernel_rfl) (by kernel_rfl) (by kernel_rfl) (by kernel_rfl) (fun _ _ _ h => h) (by rfl) ?_ (by assumption) ?_
  rotate_left
  · intro w' hSw; (try dsimp only at hSw); go_simp; try with_reducible rfl
  try simp only [Act.put, List.setIfInBounds_toArray, List.set_cons_zero, List.set_cons_succ]
  refine takeWE (i := 14) (d := (some 158)) (v := ?_) rfl rfl (by kernel_rfl) (by kernel_rfl) (by kernel_rfl) (by kernel_rfl) (by kernel_rfl) (fun _ _ _ h => h) (by rfl) ?_ (by assumption) ?_
  rotate_left
  · intro w' hSw; (try dsimp only at hSw); go_simp; try with_reducible rfl
  try simp only [Act.put, List.setIfInBounds_toArray, List.set_cons_zero, List.set_cons_succ]
  refine wpE_ready (rs := [7]) (by kernel_rfl) (by simp) ?_
  refine AllE.cons rfl (fun K hK => ?_) (AllE.nil)
  go_simp
  go_at_call 19
  (with_reducible refine (HT0.out.code (C1.out _)).mono ?_)
  rintro e v1 ⟨rfl, hB, hS⟩
  have HT1 := Lib.hid hB
  have HSZ1 := Lib.hid (Nat.le_trans HSZ0.out hS)
  clear hB hS
  go_wp2_with (fail)
  refine hK.out _ _ ?_ (fun hHeld => ?_)
  · exact KS.out _ HT1.out
  clear hK K
  try simp only [Act.put, List.setIfInBounds_toArray, List.set_cons_zero, List.set_cons_succ]
  refine wpE_ready (rs := [15]) (by kernel_rfl) (by simp) ?_
  refine AllE.cons rfl (fun K hK => ?_) (AllE.nil)
  go_simp
  go_at_call 33
  (with_reducible refine (HT1.out.refc (C2.out _)).mono ?_)
  rintro e v2 ⟨rfl, hB, hS⟩
  have HT2 := Lib.hid hB
  have HSZ2 := Lib.hid (Nat.le_trans HSZ1.out hS)
  clear hB hS
  go_wp2_with (fail)
  refine hK.out _ _ ?_ (fun hHeld => ?_)
  · exact KS.out _ HT2.out
  clear hK K
  try simp only [Act.put, List.setIfInBounds_toArray, List.set_cons_zero, List.set_cons_succ]
  refine takeWE (i := 16) (d := (some 160)) (v := ?_) rfl rfl (by kernel_rfl) (by kernel_rfl) (by kernel_rfl) (by kernel_rfl) (by kernel_rfl) (fun _ _ _ h => h) (by rfl) ?_ (by assumption) ?_
  rotate_left
  · intro w' hSw; (try dsimp only at hSw); go_simp; try with_reducible rfl
  try simp only [Act.put, List.setIfInBounds_toArray, List.set_cons_zero, List.set_cons_succ]
  refine wpE_ready (rs := [17]) (by kernel_rfl) (by simp) ?_
  refine AllE.last rfl (by kernel_rfl) (fun K hK => ?_)
  go_simp
  go_wp2_with (fail)
  refine hK.out _ _ ?_
  clear hK K hHeld
  go_wp2_with (fail)
  go_ret
  exact ⟨rfl, HT2.out.tail, by rw [hgb]; exact HSZ2.out⟩
theorem At.cells12 {w : World} {g : Nat} {T : TypeId} {a d e : Value} {x y : Value} (h : (rAt g T #[a, x, y, d, e]).P w) : w.cell? ⟨g, 1, none⟩ = some x ∧ w.cell? ⟨g, 2, none⟩ = some y := ⟨At.cell h 1, At.cell h 2⟩
set_option maxRecDepth 100000 in
set_option maxHeartbeats 3200000 in
theorem does6 (h : Tw w0 w gn gx l l rs) (hI : NInv l) (n m : Int) (b : UInt8) (A : Option Addr) (c : Nat) (ls : List MsgV) :
    Calls Try.prog 21 #[.pointer (some ⟨gn, 0, none⟩), .pointer (some ⟨gx, 0, none⟩), .agg #[.int .i64 6, .int .i64 n, .int .i64 m, .int .u8 (b.toNat : Int), .slice A ls.length c]] w fun e w' => e = .returned (.bool true) ∧ Tw w0 w' gn gx (dropL l [n, m]) (dropL l [n, m]) rs ∧ w.heap.size ≤ w'.heap.size := by
  have hsz0 : w.heap.size ≤ (w.alloc (.cells #[.int .i64 6, .int .i64 n, .int .i64 m, .int .u8 (b.toNat : Int), .slice A ls.length c] 26)).heap.size := by simp
  have HB := Lib.hid (h.newAt 26 #[.int .i64 6, .int .i64 n, .int .i64 m, .int .u8 (b.toNat : Int), .slice A ls.length c] rfl)
  have HI := Lib.hid hI
  clear h hI
  obtain ⟨r, HR⟩ : ∃ r : Int, Hid ((l.length : Int) - ((dropL l [n, m]).length : Int) = r) := ⟨_, rfl⟩
  obtain ⟨l', HL⟩ : ∃ l', Hid (dropL l [n, m] = l') := ⟨_, rfl⟩
  have C1 : Hid (∀ w rs, NetA w0 w gn l rs → ∀ gi, At w gi 3 #[.int .i64 n, .int .i64 m] → ∀ cb : Nat, Calls Try.prog 23 #[.pointer (some ⟨gn, 0, none⟩), .slice (some ⟨gi, 0, none⟩) 2 cb] w fun e w' => e = .returned (.int .i64 ((l.length : Int) - ((dropL l [n, m]).length : Int))) ∧ NetA w0 w' gn (dropL l [n, m]) rs ∧ w.heap.size ≤ w'.heap.size) := fun w rs h gi hg cb => drop_all (ids := [n, m]) h HI.out.len hg (by simp) cb
  have C2 : Hid (∀ w rs, RefA w0 w gx l rs → ∀ gi, At w gi 3 #[.int .i64 n, .int .i64 m] → ∀ cb : Nat, Calls Try.prog 34 #[.pointer (some ⟨gx, 0, none⟩), .slice (some ⟨gi, 0, none⟩) 2 cb] w fun e w' => e = .returned (.int .i64 ((l.length : Int) - ((dropL l [n, m]).length : Int))) ∧ RefA w0 w' gx (dropL l [n, m]) rs ∧ w.heap.size ≤ w'.heap.size) := fun w rs h gi hg cb => rdrop_all (ids := [n, m]) h HI.out.len hg (by simp) cb
  rw [HR.out, HL.out] at C1 C2
  rw [HL.out]
  go_enter Try.func21, Try.ntmps21
  have x0 := (HB.out.get 0 rfl).cell 0
  simp only [List.getElem?_toArray, List.getElem?_cons_zero] at x0
  go_wp2_with (fail)
  generalize w.alloc (.cells #[.int .i64 6, .int .i64 n, .int .i64 m, .int .u8 (b.toNat : Int), .slice A ls.length c] 26) = ws at *
  generalize hgb : w.heap.size = gb at *
  clear x0
  refine wp_regionE 15 (fun w' => w'.cell? ⟨gb, 1, none⟩ = some (.int .i64 n) ∧ w'.cell? ⟨gb, 2, none⟩ = some (.int .i64 m)) (by kernel_rfl) ?_ (fun hHeld => ?_)
  · exact At.cells12 ((HB.out.quiet ((Chg.refl [] ws).drew)).get 0 rfl)
  have HT0 := Lib.hid (HB.out.quiet ((Chg.refl [] ws).drew))
  have HSZ0 : Hid (gb ≤ ws.drew.heap.size) := Nat.le_trans hsz0 ((Chg.refl [] ws).drew).size
  generalize ws.drew = v0 at *
  refine takeWE (i := 0) (d := (some 163)) (v := ?_) rfl rfl (by kernel_rfl) (by kernel_rfl) (by kernel_rfl) (by kernel_rfl) (by kernel_rfl) (fun _ _ _ h => h) (by rfl) ?_ (by assumption) ?_
  rotate_left
  · intro w' hSw; (try dsimp only at hSw); go_simp; try with_reducible rfl
  try simp only [Act.put, List.setIfInBounds_toArray, List.set_cons_zero, List.set_cons_succ]
  refine takeWE (i := 1) (d := (some 164)) (v := ?_) rfl rfl (by kernel_rfl) (by kernel_rfl) (by kernel_rfl) (by kernel_rfl) (by kernel_rfl) (fun _ _ _ h => h) (by rfl) ?_ (by assumption) ?_
  rotate_left
  · intro w' hSw; (try dsimp only at hSw); go_simp; try with_reducible rfl
  try simp only [Act.put, List.setIfInBounds_toArray, List.set_cons_zero, List.set_cons_succ]
  refine takeWE (i := 2) (d := (some 165)) (v := ?_) rfl rfl (by kernel_rfl) (by kernel_rfl) (by kernel_rfl) (by kernel_rfl) (by kernel_rfl) (fun _ _ _ h => h) (by rfl) ?_ (by assumption) ?_
  rotate_left
  · intro w' hSw; (try dsimp only at hSw); go_simp; try with_reducible rfl
  try simp only [Act.put, List.setIfInBounds_toArray, List.set_cons_zero, List.set_cons_succ]
  refine takeWE (i := 3) (d := (some 166)) (v := ?_) rfl rfl (by kernel_rfl) (by kernel_rfl) (by kernel_rfl) (by kernel_rfl) (by kernel_rfl) (fun _ _ _ h => h) (by rfl) ?_ (by assumption) ?_
  rotate_left
  · intro w' hSw; (try dsimp only at hSw); go_simp; try with_reducible rfl
  try simp only [Act.put, List.setIfInBounds_toArray, List.set_cons_zero, List.set_cons_succ]
  refine takeWE (i := 4) (d := (some 167)) (v := ?_) rfl rfl (by kernel_rfl) (by kernel_rfl) (by kernel_rfl) (by kernel_rfl) (by kernel_rfl) (fun _ _ _ h => h) (by rfl) ?_ (by assumption) ?_
  rotate_left
  · intro w' hSw; (try dsimp only at hSw); go_simp; try with_reducible rfl
  try simp only [Act.put, List.setIfInBounds_toArray, List.set_cons_zero, List.set_cons_succ]
  refine takeWE (i := 7) (d := (some 170)) (v := ?_) rfl rfl (by kernel_rfl) (by kernel_rfl) (by kernel_rfl) (by kernel_rfl) (by kernel_rfl) (fun _ _ _ h => h) (by rfl) ?_ (by assumption) ?_
  rotate_left
  · intro w' hSw; (try dsimp only at hSw); go_simp; try with_reducible rfl
  try simp only [Act.put, List.setIfInBounds_toArray, List.set_cons_zero, List.set_cons_succ]
  refine takeWE (i := 8) (d := (some 171)) (v := ?_) rfl rfl (by kernel_rfl) (by kernel_rfl) (by kernel_rfl) (by kernel_rfl) (by kernel_rfl) (fun _ _ _ h => h) (by rfl) ?_ (by assumption) ?_
  rotate_left
  · intro w' hSw; (try dsimp only at hSw); go_simp; try with_reducible rfl
  try simp only [Act.put, List.setIfInBounds_toArray, List.set_cons_zero, List.set_cons_succ]
  refine takeWE (i := 9) (d := (some 172)) (v := ?_) rfl rfl (by kernel_rfl) (by kernel_rfl) (by kernel_rfl) (by kernel_rfl) (by kernel_rfl) (fun _ _ _ h => h) (by rfl) ?_ (by assumption) ?_
  rotate_left
  · intro w' hSw; (try dsimp only at hSw); go_simp; try with_reducible rfl
  try simp only [Act.put, List.setIfInBounds_toArray, List.set_cons_zero, List.set_cons_succ]
  refine takeWE (i := 10) (d := (some 173)) (v := ?_) rfl rfl (by kernel_rfl) (by kernel_rfl) (by kernel_rfl) (by kernel_rfl) (by kernel_rfl) (fun _ _ _ h => h) (by rfl) ?_ (by assumption) ?_
  rotate_left
  · intro w' hSw; (try dsimp only at hSw); go_simp; try with_reducible rfl
  try simp only [Act.put, List.setIfInBounds_toArray, List.set_cons_zero, List.set_cons_succ]
  refine takeWE (i := 11) (d := (some 174)) (v := ?_) rfl rfl (by kernel_rfl) (by kernel_rfl) (by kernel_rfl) (by kernel_rfl) (by kernel_rfl) (fun _ _ _ h => h) (by rfl) ?_ (by assumption) ?_
  rotate_left
  · intro w' hSw; (try dsimp only at hSw); go_simp; try with_reducible rfl
  try simp only [Act.put, List.setIfInBounds_toArray, List.set_cons_zero, List.set_cons_succ]
  refine wpE_ready (rs := [5, 12]) (by kernel_rfl) (by simp) ?_
  refine AllE.cons rfl (fun K hK => ?_) (AllE.cons rfl (fun K hK => ?_) (AllE.nil))
  · go_simp
    go_wp2_with (fail)
    have HT1 := Lib.hid (HT0.out.newAt 3 #[.int .i64 n, .int .i64 m] rfl)
    have HSZ1 : Hid (gb ≤ (v0.alloc (.cells #[.int .i64 n, .int .i64 m] 3)).heap.size) := by unfold Hid; have := HSZ0.out; simp; omega
    generalize v0.alloc (.cells #[.int .i64 n, .int .i64 m] 3) = v1 at *
    generalize v0.heap.size = gi5 at *
    refine hK.out _ _ ?_ (fun hHeld => ?_)
    · exact At.cells12 (HT1.out.get 1 rfl)
    clear hK K
    try simp only [Act.put, List.setIfInBounds_toArray, List.set_cons_zero, List.set_cons_succ]
    refine wpE_ready (rs := [6, 12]) (by kernel_rfl) (by simp) ?_
    refine AllE.cons rfl (fun K hK => ?_) (AllE.cons rfl (fun K hK => ?_) (AllE.nil))
    · go_simp
      go_at_call 23
      (with_reducible refine (HT1.out.code (fun rs h => C1.out _ rs h _ (HT1.out.get 0 rfl) _)).mono ?_)
      rintro e v2 ⟨rfl, hB, hS⟩
      have HT2 := Lib.hid hB
      have HSZ2 := Lib.hid (Nat.le_trans HSZ1.out hS)
      clear hB hS
      go_wp2_with (fail)
      refine hK.out _ _ ?_ (fun hHeld => ?_)
      · exact At.cells12 (HT2.out.get 1 rfl)
      clear hK K
      try simp only [Act.put, List.setIfInBounds_toArray, List.set_cons_zero, List.set_cons_succ]
      refine wpE_ready (rs := [12]) (by kernel_rfl) (by simp) ?_
      refine AllE.cons rfl (fun K hK => ?_) (AllE.nil)
      go_simp
      go_wp2_with (fail)
      have HT3 := Lib.hid (HT2.out.newAt 3 #[.int .i64 n, .int .i64 m] rfl)
      have HSZ3 : Hid (gb ≤ (v2.alloc (.cells #[.int .i64 n, .int .i64 m] 3)).heap.size) := by unfold Hid; have := HSZ2.out; simp; omega
      generalize v2.alloc (.cells #[.int .i64 n, .int .i64 m] 3) = v3 at *
      generalize v2.heap.size = gi12 at *
      refine hK.out _ _ ?_ (fun hHeld => ?_)
      · exact At.cells12 (HT3.out.get 2 rfl)
      clear hK K
      try simp only [Act.put, List.setIfInBounds_toArray, List.set_cons_zero, List.set_cons_succ]
      refine wpE_ready (rs := [13]) (by kernel_rfl) (by simp) ?_
      refine AllE.cons rfl (fun K hK => ?_) (AllE.nil)
      go_simp
      go_at_call 34
      (with_reducible refine (HT3.out.refc (fun rs h => C2.out _ rs h _ (HT3.out.get 0 rfl) _)).mono ?_)
      rintro e v4 ⟨rfl, hB, hS⟩
      have HT4 := Lib.hid hB
      have HSZ4 := Lib.hid (Nat.le_trans HSZ3.out hS)
      clear hB hS
      go_wp2_with (fail)
      refine hK.out _ _ ?_ (fun hHeld => ?_)
      · exact At.cells12 (HT4.out.get 2 rfl)
      clear hK K
      try simp only [Act.put, List.setIfInBounds_toArray, List.set_cons_zero, List.set_cons_succ]
      refine takeWE (i := 14) (d := (some 177)) (v := ?_) rfl rfl (by kernel_rfl) (by kernel_rfl) (by kernel_rfl) (by kernel_rfl) (by kernel_rfl) (fun _ _ _ h => h) (by rfl) ?_ (by assumption) ?_
      rotate_left
      · intro w' hSw; (try dsimp only at hSw); go_simp; try with_reducible rfl
      try simp only [Act.put, List.setIfInBounds_toArray, List.set_cons_zero, List.set_cons_succ]
      refine wpE_ready (rs := [15]) (by kernel_rfl) (by simp) ?_
      refine AllE.last rfl (by kernel_rfl) (fun K hK => ?_)
      go_simp
      go_wp2_with (fail)
      refine hK.out _ _ ?_
      clear hK K hHeld
      go_wp2_with (fail)
      go_ret
      exact ⟨rfl, HT4.out.tail.tail.tail, by rw [hgb]; exact HSZ4.out⟩
    · go_simp
      go_wp2_with (fail)
      have HT2 := Lib.hid (HT1.out.newAt 3 #[.int .i64 n, .int .i64 m] rfl)
      have HSZ2 : Hid (gb ≤ (v1.alloc (.cells #[.int .i64 n, .int .i64 m] 3)).heap.size) := by unfold Hid; have := HSZ1.out; simp; omega
      generalize v1.alloc (.cells #[.int .i64 n, .int .i64 m] 3) = v2 at *
      generalize v1.heap.size = gi12 at *
      refine hK.out _ _ ?_ (fun hHeld => ?_)
      · exact At.cells12 (HT2.out.get 2 rfl)
      clear hK K
      try simp only [Act.put, List.setIfInBounds_toArray, List.set_cons_zero, List.set_cons_succ]
      refine wpE_ready (rs := [6]) (by kernel_rfl) (by simp) ?_
      refine AllE.cons rfl (fun K hK => ?_) (AllE.nil)
      go_simp
      go_at_call 23
      (with_reducible refine (HT2.out.code (fun rs h => C1.out _ rs h _ (HT2.out.get 1 rfl) _)).mono ?_)
      rintro e v3 ⟨rfl, hB, hS⟩
      have HT3 := Lib.hid hB
      have HSZ3 := Lib.hid (Nat.le_trans HSZ2.out hS)
      clear hB hS
      go_wp2_with (fail)
      refine hK.out _ _ ?_ (fun hHeld => ?_)
      · exact At.cells12 (HT3.out.get 2 rfl)
      clear hK K
      try simp only [Act.put, List.setIfInBounds_toArray, List.set_cons_zero, List.set_cons_succ]
      refine wpE_ready (rs := [13]) (by kernel_rfl) (by simp) ?_
      refine AllE.cons rfl (fun K hK => ?_) (AllE.nil)
      go_simp
      go_at_call 34
      (with_reducible refine (HT3.out.refc (fun rs h => C2.out _ rs h _ (HT3.out.get 0 rfl) _)).mono ?_)
      rintro e v4 ⟨rfl, hB, hS⟩
      have HT4 := Lib.hid hB
      have HSZ4 := Lib.hid (Nat.le_trans HSZ3.out hS)
      clear hB hS
      go_wp2_with (fail)
      refine hK.out _ _ ?_ (fun hHeld => ?_)
      · exact At.cells12 (HT4.out.get 2 rfl)
      clear hK K
      try simp only [Act.put, List.setIfInBounds_toArray, List.set_cons_zero, List.set_cons_succ]
      refine takeWE (i := 14) (d := (some 177)) (v := ?_) rfl rfl (by kernel_rfl) (by kernel_rfl) (by kernel_rfl) (by kernel_rfl) (by kernel_rfl) (fun _ _ _ h => h) (by rfl) ?_ (by assumption) ?_
      rotate_left
      · intro w' hSw; (try dsimp only at hSw); go_simp; try with_reducible rfl
      try simp only [Act.put, List.setIfInBounds_toArray, List.set_cons_zero, List.set_cons_succ]
      refine wpE_ready (rs := [15]) (by kernel_rfl) (by simp) ?_
      refine AllE.last rfl (by kernel_rfl) (fun K hK => ?_)
      go_simp
      go_wp2_with (fail)
      refine hK.out _ _ ?_
      clear hK K hHeld
      go_wp2_with (fail)
      go_ret
      exact ⟨rfl, HT4.out.tail.tail.tail, by rw [hgb]; exact HSZ4.out⟩
  · go_simp
    go_wp2_with (fail)
    have HT1 := Lib.hid (HT0.out.newAt 3 #[.int .i64 n, .int .i64 m] rfl)
    have HSZ1 : Hid (gb ≤ (v0.alloc (.cells #[.int .i64 n, .int .i64 m] 3)).heap.size) := by unfold Hid; have := HSZ0.out; simp; omega
    generalize v0.alloc (.cells #[.int .i64 n, .int .i64 m] 3) = v1 at *
    generalize v0.heap.size = gi12 at *
    refine hK.out _ _ ?_ (fun hHeld => ?_)
    · exact At.cells12 (HT1.out.get 1 rfl)
    clear hK K
    try simp only [Act.put, List.setIfInBounds_toArray, List.set_cons_zero, List.set_cons_succ]
    refine wpE_ready (rs := [5]) (by kernel_rfl) (by simp) ?_
    refine AllE.cons rfl (fun K hK => ?_) (AllE.nil)
    go_simp
    go_wp2_with (fail)
    have HT2 := Lib.hid (HT1.out.newAt 3 #[.int .i64 n, .int .i64 m] rfl)
    have HSZ2 : Hid (gb ≤ (v1.alloc (.cells #[.int .i64 n, .int .i64 m] 3)).heap.size) := by unfold Hid; have := HSZ1.out; simp; omega
    generalize v1.alloc (.cells #[.int .i64 n, .int .i64 m] 3) = v2 at *
    generalize v1.heap.size = gi5 at *
    refine hK.out _ _ ?_ (fun hHeld => ?_)
    · exact At.cells12 (HT2.out.get 2 rfl)
    clear hK K
    try simp only [Act.put, List.setIfInBounds_toArray, List.set_cons_zero, List.set_cons_succ]
    refine wpE_ready (rs := [6]) (by kernel_rfl) (by simp) ?_
    refine AllE.cons rfl (fun K hK => ?_) (AllE.nil)
    go_simp
    go_at_call 23
    (with_reducible refine (HT2.out.code (fun rs h => C1.out _ rs h _ (HT2.out.get 0 rfl) _)).mono ?_)
    rintro e v3 ⟨rfl, hB, hS⟩
    have HT3 := Lib.hid hB
    have HSZ3 := Lib.hid (Nat.le_trans HSZ2.out hS)
    clear hB hS
    go_wp2_with (fail)
    refine hK.out _ _ ?_ (fun hHeld => ?_)
    · exact At.cells12 (HT3.out.get 2 rfl)
    clear hK K
    try simp only [Act.put, List.setIfInBounds_toArray, List.set_cons_zero, List.set_cons_succ]
    refine wpE_ready (rs := [13]) (by kernel_rfl) (by simp) ?_
    refine AllE.cons rfl (fun K hK => ?_) (AllE.nil)
    go_simp
    go_at_call 34
    (with_reducible refine (HT3.out.refc (fun rs h => C2.out _ rs h _ (HT3.out.get 1 rfl) _)).mono ?_)
    rintro e v4 ⟨rfl, hB, hS⟩
    have HT4 := Lib.hid hB
    have HSZ4 := Lib.hid (Nat.le_trans HSZ3.out hS)
    clear hB hS
    go_wp2_with (fail)
    refine hK.out _ _ ?_ (fun hHeld => ?_)
    · exact At.cells12 (HT4.out.get 2 rfl)
    clear hK K
    try simp only [Act.put, List.setIfInBounds_toArray, List.set_cons_zero, List.set_cons_succ]
    refine takeWE (i := 14) (d := (some 177)) (v := ?_) rfl rfl (by kernel_rfl) (by kernel_rfl) (by kernel_rfl) (by kernel_rfl) (by kernel_rfl) (fun _ _ _ h => h) (by rfl) ?_ (by assumption) ?_
    rotate_left
    · intro w' hSw; (try dsimp only at hSw); go_simp; try with_reducible rfl
    try simp only [Act.put, List.setIfInBounds_toArray, List.set_cons_zero, List.set_cons_succ]
    refine wpE_ready (rs := [15]) (by kernel_rfl) (by simp) ?_
    refine AllE.last rfl (by kernel_rfl) (fun K hK => ?_)
    go_simp
    go_wp2_with (fail)
    refine hK.out _ _ ?_
    clear hK K hHeld
    go_wp2_with (fail)
    go_ret
    exact ⟨rfl, HT4.out.tail.tail.tail, by rw [hgb]; exact HSZ4.out⟩
set_option maxRecDepth 100000 in
theorem does0 (h : Tw w0 w gn gx l l rs) (k n m : Int) (b : UInt8) (A : Option Addr) (c : Nat) (ls : List MsgV) (h1 : k ≠ 1) (h2 : k ≠ 2) (h3 : k ≠ 3) (h4 : k ≠ 4) (h5 : k ≠ 5) (h6 : k ≠ 6) :
    Calls Try.prog 21 #[.pointer (some ⟨gn, 0, none⟩), .pointer (some ⟨gx, 0, none⟩), .agg #[.int .i64 k, .int .i64 n, .int .i64 m, .int .u8 (b.toNat : Int), .slice A ls.length c]] w fun e w' => e = .returned (.bool true) ∧ Tw w0 w' gn gx l l rs ∧ w.heap.size ≤ w'.heap.size := by
  have q := (Chg.refl [] w).alloc (.cells #[.int .i64 k, .int .i64 n, .int .i64 m, .int .u8 (b.toNat : Int), .slice A ls.length c] 26)
  have x0 := (At.new w 26 #[.int .i64 k, .int .i64 n, .int .i64 m, .int .u8 (b.toNat : Int), .slice A ls.length c]).cell 0
  simp only [List.getElem?_toArray, List.getElem?_cons_zero] at x0
  have HH := Lib.hid h
  have y1 : (k == 1) = false := beq_eq_false_iff_ne.2 h1
  have y2 : (k == 2) = false := beq_eq_false_iff_ne.2 h2
  have y3 : (k == 3) = false := beq_eq_false_iff_ne.2 h3
  have y4 : (k == 4) = false := beq_eq_false_iff_ne.2 h4
  have y5 : (k == 5) = false := beq_eq_false_iff_ne.2 h5
  have y6 : (k == 6) = false := beq_eq_false_iff_ne.2 h6
  clear h h1 h2 h3 h4 h5 h6
  go_enter Try.func21, Try.ntmps21
  go_wp2_with (fail)
  go_ret
  exact ⟨rfl, HH.out.quiet q, q.size⟩
end
end Go.Proofs.Ytbgdcplbekoemaa
