
/-
  net: the law's 'does': sending.
-/
import Derived.Test.YtbgdcplbekoemaaNetDg
namespace Go.Proofs.Ytbgdcplbekoemaa
open Go.RowKit
set_option linter.unusedVariables false
set_option linter.unusedSimpArgs false
theorem info_msg : (Try.prog.info? 35).map (fun i => (i.zero, i.size, i.bytes)) = some (some (.agg #[.int .i64 0, .int .i64 0, .slice none 0 0]), 3, 40) := by kernel_rfl
def datM (xs : List MsgV) : List Nat := xs.flatMap fun m => blk m.A
/-- Messages in memory of the call's own; of those from the k-th on the bytes are what they were. -/
def MsgP (B : Option Addr) (cb : Nat) (xs : List MsgV) (k : Nat) (w : World) : Prop :=
  w.ownsRow 0 35 3 (.slice B xs.length cb) xs.length (cMs xs) ∧ ∀ j (h : j < xs.length), k ≤ j → w.ownsRow 0 5 1 (.slice xs[j].A xs[j].d.length xs[j].cp) xs[j].d.length (cB xs[j].d)
def rMsg (B : Option Addr) (cb : Nat) (xs : List MsgV) (k : Nat) : Res := ⟨blk B ++ datM xs, MsgP B cb xs k⟩
theorem mem_datM {xs : List MsgV} {k : Nat} (hk : k < xs.length) {j : Nat} (hj : j ∈ blk xs[k].A) : j ∈ datM xs := List.mem_flatMap.2 ⟨_, List.getElem_mem hk, hj⟩
theorem rMsg_stable (w0 : World) (B : Option Addr) (cb : Nat) (xs : List MsgV) (k : Nat) : Stable w0 (rMsg B cb xs k) := fun w w' h hs hk =>
  ⟨own_stable h.1 (fun b hb hm => hk b hb (.inl (List.mem_append_left _ hm))), fun j hj hkj => own_stable (h.2 j hj hkj) (fun b hb hm => hk b hb (.inl (List.mem_append_right _ (mem_datM hj hm))))⟩
theorem Rd.getMs {w : World} {A : Option Addr} {l : List MsgV} (h : Rd w 3 A l.length (cMs l)) {k : Nat} (hk : k < l.length) :
    ∃ ad, A = some ad ∧ ad.block < w.heap.size ∧ w.cell? (ad.add (k * 3)) = some (.int .i64 l[k].f) ∧ w.cell? ⟨(ad.add (k * 3)).block, (ad.add (k * 3)).off + 1, none⟩ = some (.int .i64 l[k].t) ∧ w.cell? ⟨(ad.add (k * 3)).block, (ad.add (k * 3)).off + 2, none⟩ = some (.slice l[k].A l[k].d.length l[k].cp) := by
  obtain ⟨ad, e, hb, hc⟩ := h.at_ (by omega)
  have hj : ∀ j u, 0 < j → j < 3 → (l[k].cells)[j]? = some u → w.cell? ⟨(ad.add (k * 3)).block, (ad.add (k * 3)).off + j, none⟩ = some u := fun j u hj hj3 hu => by
    have h1 := hc (k * 3 + j) u (by rw [cMs_get hk hj3]; exact hu)
    rw [← add_add] at h1
    unfold Addr.add at h1
    rw [if_neg (show ¬ j = 0 by omega)] at h1
    exact h1
  exact ⟨ad, e, hb, hc _ _ (by have := cMs_get hk (j := 0) (by omega); rw [Nat.add_zero] at this; rw [this]; rfl), hj 1 _ (by omega) (by omega) rfl, hj 2 _ (by omega) (by omega) rfl⟩
section
variable {w0 w w' : World} {gn gx : Nat} {l l2 : List MV} {rs : List Res} {B B' : Option Addr} {cb cb' : Nat} {xs : List MsgV}
theorem Tw.msg (h : Tw w0 w gn gx l l2 (rMsg B cb xs 0 :: rs)) {X : MsgV} (hc : Chg (blk B) w w') (ho : w'.ownsRow 0 35 3 (.slice B' (xs.length + 1) cb') (xs.length + 1) (cMs (xs ++ [X]))) (hx : w'.ownsRow w.heap.size 5 1 (.slice X.A X.d.length X.cp) X.d.length (cB X.d)) (hB : ∀ j ∈ blk B', j ∈ blk B ∨ w.heap.size ≤ j) :
    Tw w0 w' gn gx l l2 (rMsg B' cb' (xs ++ [X]) 0 :: rs) := by
  refine h.beside fun ts H => ?_
  have hP := H.get 0 rfl
  have hn := H.nodup
  simp only [List.cons_append, List.map_cons, List.flatten_cons, List.nodup_append] at hn
  have hn1 : (blk B ++ datM xs).Nodup := hn.1
  have hdn := (List.nodup_append.1 hn1).2.1
  have hlt := H.rng 0 rfl
  have e : datM (xs ++ [X]) = datM xs ++ blk X.A := by simp [datM]
  have hX : ∀ j ∈ blk X.A, w.heap.size ≤ j := fun j hj => (own_in hx j hj).1
  have hdk : ∀ j (h : j < xs.length), w'.ownsRow 0 5 1 (.slice xs[j].A xs[j].d.length xs[j].cp) xs[j].d.length (cB xs[j].d) := fun j hj => own_keep (hP.2 j hj (Nat.zero_le _)) hc (fun b hb hm => own_ne1 (hP.2 j hj (Nat.zero_le _)) hP.1 (by decide) b hb (ob _ _ _ _ hm))
  refine H.head (hc.mono (fun j hj => .inl (List.mem_append_left _ hj))) (rMsg B' cb' (xs ++ [X]) 0) (fun b hb => ?_) ?_ ⟨by rw [List.length_append]; exact ho, fun j hj _ => ?_⟩ (rMsg_stable _ _ _ _ _)
  · rcases List.mem_append.1 hb with hb | hb
    · exact ⟨(hB b hb).imp (fun h => List.mem_append_left _ h) id, (own_in ho b hb).2⟩
    · rw [e] at hb
      rcases List.mem_append.1 hb with hb | hb
      · exact ⟨.inl (List.mem_append_right _ hb), Nat.lt_of_lt_of_le (hlt b (List.mem_append_right _ hb)).2 hc.size⟩
      · exact ⟨.inr (hX b hb), (own_in hx b hb).2⟩
  · show (blk B' ++ datM (xs ++ [X])).Nodup
    rw [e]
    refine List.nodup_append.2 ⟨blk_nodup _, List.nodup_append.2 ⟨hdn, blk_nodup _, fun a ha b hb hab => ?_⟩, fun a ha b hb hab => ?_⟩
    · subst hab
      have h1 := (hlt a (List.mem_append_right _ ha)).2
      have h2 := hX a hb
      omega
    · subst hab
      rcases List.mem_append.1 hb with hb | hb
      · obtain ⟨m, hm, hj⟩ := List.mem_flatMap.1 hb
        obtain ⟨k, hk, rfl⟩ := List.getElem_of_mem hm
        exact own_ne1 ho (hdk k hk) (by decide) a (ob _ _ _ _ ha) (ob _ _ _ _ hj)
      · exact own_ne1 ho hx (by decide) a (ob _ _ _ _ ha) (ob _ _ _ _ hb)
  · by_cases hj2 : j < xs.length
    · simp only [List.getElem_append_left hj2]
      exact hdk j hj2
    · have hj3 : j = xs.length := by simp at hj; omega
      subst hj3
      simp only [List.getElem_append_right (Nat.le_refl _), Nat.sub_self, List.getElem_cons_zero]
      exact own_base hx (fun _ _ => Nat.zero_le _)
theorem Tw.msg0 (h : Tw w0 w gn gx l l2 rs) : Tw w0 w gn gx l l2 (rMsg none 0 [] 0 :: rs) := h.beside fun ts H =>
  H.new (Chg.refl _ _) (rMsg none 0 [] 0) (fun b hb => by simp [rMsg, blk, datM] at hb) (by simp [rMsg, blk, datM]) ⟨own_none _ _ _ _, fun j hj => by simp at hj⟩ (rMsg_stable _ _ _ _ _)
theorem datM_apart : ∀ {xs : List MsgV}, (datM xs).Nodup → ∀ {j k : Nat} (hj : j < xs.length) (hk : k < xs.length), j ≠ k → ∀ b ∈ blk xs[j].A, b ∉ blk xs[k].A
  | a :: xs, hn, 0, 0, _, _, h => absurd rfl h
  | a :: xs, hn, 0, k + 1, _, hk, _ => fun b hb hb2 => by
    have hn' : (blk a.A ++ datM xs).Nodup := hn
    exact (List.nodup_append.1 hn').2.2 b hb b (mem_datM (by simpa using hk) hb2) rfl
  | a :: xs, hn, j + 1, 0, hj, _, _ => fun b hb hb2 => by
    have hn' : (blk a.A ++ datM xs).Nodup := hn
    exact (List.nodup_append.1 hn').2.2 b hb2 b (mem_datM (by simpa using hj) hb) rfl
  | a :: xs, hn, j + 1, k + 1, hj, hk, h => by
    have hn' : (blk a.A ++ datM xs).Nodup := hn
    exact datM_apart (List.nodup_append.1 hn').2.1 (by simpa using hj) (by simpa using hk) (by omega)
theorem Tw.spoilt {q : Nat} (h : Tw w0 w gn gx l l2 (rMsg B cb xs q :: rs)) (hq : q < xs.length) (hc : Chg (blk xs[q].A) w w') : Tw w0 w' gn gx l l2 (rMsg B cb xs (q + 1) :: rs) := by
  refine h.beside fun ts H => ?_
  have hP := H.get 0 rfl
  have hn := H.nodup
  simp only [List.cons_append, List.map_cons, List.flatten_cons, List.nodup_append] at hn
  have hdn := (List.nodup_append.1 (show (blk B ++ datM xs).Nodup from hn.1)).2.1
  refine H.same (hc.mono (fun j hj => .inl (List.mem_append_right _ (mem_datM hq hj)))) (P' := MsgP B cb xs (q + 1)) ⟨own_keep hP.1 hc (fun b hb hm => own_ne1 hP.1 (hP.2 q hq (Nat.le_refl _)) (by decide) b hb (ob _ _ _ _ hm)), fun j hj hkj => ?_⟩ (rMsg_stable _ _ _ _ _)
  refine own_keep (hP.2 j hj (by omega)) hc (fun b hb hm => ?_)
  have hb2 := bo _ _ _ _ hb
  exact datM_apart hdn hj hq (by omega) b hb2 hm
set_option maxRecDepth 100000 in
set_option maxHeartbeats 6400000 in
theorem does1 (h : Tw w0 w gn gx l l rs) (hI : NInv l) (n m : Int) (b : UInt8) (A : Option Addr) (c : Nat) (ls : List MsgV) (hM : MsIn w0 A ls) (hD : ∀ x ∈ ls, x.d.length ≤ 8000) (hn5 : ls.length ≤ 1600) :
    Calls Try.prog 21 #[.pointer (some ⟨gn, 0, none⟩), .pointer (some ⟨gx, 0, none⟩), .agg #[.int .i64 1, .int .i64 n, .int .i64 m, .int .u8 (b.toNat : Int), .slice A ls.length c]] w fun e w' => e = .returned (.bool true) ∧ Tw w0 w' gn gx (sendL l ls ls.length) (sendL l ls ls.length) rs ∧ w.heap.size ≤ w'.heap.size := by
  have hsz0 : w.heap.size ≤ (w.alloc (.cells #[.int .i64 1, .int .i64 n, .int .i64 m, .int .u8 (b.toNat : Int), .slice A ls.length c] 26)).heap.size := by simp
  have HB := Lib.hid (h.newAt 26 #[.int .i64 1, .int .i64 n, .int .i64 m, .int .u8 (b.toNat : Int), .slice A ls.length c] rfl)
  have HI := Lib.hid hI
  clear h hI
  obtain ⟨i1, hi1, hy0, hy1, hy2⟩ := info_parts info_msg
  obtain ⟨i8, hi8, hz0, hz1, hz2⟩ := info_parts info_u8n
  have HMI := Lib.hid hM
  clear hM
  obtain ⟨l', HL⟩ : ∃ l', Hid (sendL l ls ls.length = l') := ⟨_, rfl⟩
  obtain ⟨r, HR⟩ : ∃ r : Nat, Hid (min ls.length (1024 - l.length) = r) := ⟨_, rfl⟩
  rw [HL.out]
  go_enter Try.func21, Try.ntmps21
  have x0 := (HB.out.get 0 rfl).cell 0
  simp only [List.getElem?_toArray, List.getElem?_cons_zero] at x0
  go_wp2_with (fail)
  generalize w.alloc (.cells #[.int .i64 1, .int .i64 n, .int .i64 m, .int .u8 (b.toNat : Int), .slice A ls.length c] 26) = ws at *
  generalize hgb : w.heap.size = gb at *
  clear x0
  have HSTART := Lib.hid HB.out.msg0
  have hgbs := hsz0
  clear HB
  go_loopw [7, 8] (fun s i wr => ∃ (q : Nat) (B : Option Addr) (cb : Nat) (xs : List MsgV), q ≤ ls.length ∧ i = .int .i64 q ∧ s = .slice B xs.length cb ∧ Hid (xs.map MsgV.val = (ls.take q).map MsgV.val) ∧ Hid (Tw w0 wr gn gx l l (rMsg B cb xs 0 :: rAt gb 26 #[.int .i64 1, .int .i64 n, .int .i64 m, .int .u8 (b.toNat : Int), .slice A ls.length c] :: rs)) ∧ gb ≤ wr.heap.size) (fun _ i _ => ls.length - (intOf i).toNat)
  case atStart => exact ⟨0, none, 0, [], Nat.zero_le _, rfl, rfl, rfl, HSTART, hgbs⟩
  case round =>
    clear HSTART hgbs
    obtain ⟨q, B, cb, xs, hq, rfl, rfl, HE, HT, hwr⟩ := hrel
    have x4 := (HT.out.get 1 rfl).cell 4
    simp only [List.getElem?_toArray, List.getElem?_cons_zero, List.getElem?_cons_succ] at x4
    have hxl : xs.length ≤ 1600 := by
      have h := congrArg List.length HE.out
      rw [List.length_map, List.length_map, List.length_take] at h
      omega
    by_cases hlt : q < ls.length
    · have hMI := HMI.out.k HT.out.chg
      obtain ⟨ad, hA, had, a0, a1, a2⟩ := hMI.get3 hlt
      have hIn := hMI.each _ (List.getElem_mem hlt)
      have hdl := hD ls[q] (List.getElem_mem hlt)
      obtain ⟨ad0, hA0, had0, _⟩ := HMI.out.get3 hlt
      rw [hA] at hA0
      injection hA0 with hA0
      rw [← hA0] at had0
      subst hA
      have HTK : Hid (ls.take (q + 1) = ls.take q ++ [ls[q]]) := List.take_succ_eq_append_getElem hlt
      have hqi : (q : Int) < (ls.length : Int) := by omega
      generalize ls[q] = x at *
      obtain ⟨xf, xt, xd, xA, xc⟩ := x
      simp only at a0 a1 a2 hdl
      have HXL : Hid (xd.length ≤ 8000) := hdl
      have HRX := Lib.hid hIn.rd
      simp only at HRX
      have HP := Lib.hid (HT.out.get 0 rfl)
      have HAD := Lib.hid had
      have HAD0 := Lib.hid had0
      have HA0 := Lib.hid a0
      have HA1 := Lib.hid a1
      have HA2 := Lib.hid a2
      have HOLD : Hid (∀ b ∈ blk B, ¬ b < w0.heap.size) := fun b hb => by
        obtain ⟨_, _, _, _, _, _, _, _, H⟩ := HT.out
        have := (H.rng 2 rfl b (List.mem_append_left _ hb)).1
        omega
      have HGB : Hid (∀ j, j ∈ blk B → j = gb → False) := fun j hj e => by
        subst e
        exact own_at_ne HP.out.1 (HT.out.get 1 rfl) (by decide) j (ob _ _ _ _ hj) rfl
      have KK : Hid (∀ w', Chg [] wr w' → w'.cell? ⟨gb, 4, none⟩ = some (.slice (some ad) ls.length c) ∧ w'.cell? (ad.add (q * 3)) = some (.int .i64 xf) ∧ w'.cell? ⟨(ad.add (q * 3)).block, (ad.add (q * 3)).off + 1, none⟩ = some (.int .i64 xt) ∧ w'.cell? ⟨(ad.add (q * 3)).block, (ad.add (q * 3)).off + 2, none⟩ = some (.slice xA xd.length xc)) := fun w' hc => ⟨((HT.out.get 1 rfl).keep hc (by simp)).cell 4, (hc.cell (p := (ad.add (q * 3))) (by rw [add_block]; exact HAD.out) (by simp)).trans HA0.out, (hc.cell (p := ⟨(ad.add (q * 3)).block, (ad.add (q * 3)).off + 1, none⟩) (by show (ad.add (q * 3)).block < _; rw [add_block]; exact HAD.out) (by simp)).trans HA1.out, (hc.cell (p := ⟨(ad.add (q * 3)).block, (ad.add (q * 3)).off + 2, none⟩) (by show (ad.add (q * 3)).block < _; rw [add_block]; exact HAD.out) (by simp)).trans HA2.out⟩
      clear hMI hIn hdl a0 a1 a2 had had0 hA0 hD
      go_wp2_with (fail)
      clear x4
      refine wp_regionE 31 (fun w' => w'.cell? ⟨gb, 4, none⟩ = some (.slice (some ad) ls.length c) ∧ w'.cell? (ad.add (q * 3)) = some (.int .i64 xf) ∧ w'.cell? ⟨(ad.add (q * 3)).block, (ad.add (q * 3)).off + 1, none⟩ = some (.int .i64 xt) ∧ w'.cell? ⟨(ad.add (q * 3)).block, (ad.add (q * 3)).off + 2, none⟩ = some (.slice xA xd.length xc)) (by kernel_rfl) ?_ (fun hHeld => ?_)
      · exact KK.out _ ((Chg.refl [] wr).drew)
      have HCD : Hid (Chg [] wr wr.drew) := (Chg.refl [] wr).drew
      generalize wr.drew = wd at *
      refine takeWE (i := 0) (d := (some 28)) (v := ?_) rfl rfl (by kernel_rfl) (by kernel_rfl) (by kernel_rfl) (by kernel_rfl) (by kernel_rfl) (fun _ _ _ h => h) (by rfl) ?_ (by assumption) ?_
      rotate_left
      · intro w' hSw; (try dsimp only at hSw); go_simp; try with_reducible rfl
      try simp only [Act.put, List.setIfInBounds_toArray, List.set_cons_zero, List.set_cons_succ]
      refine takeWE (i := 1) (d := (some 29)) (v := ?_) rfl rfl (by kernel_rfl) (by kernel_rfl) (by kernel_rfl) (by kernel_rfl) (by kernel_rfl) (fun _ _ _ h => h) (by rfl) ?_ (by assumption) ?_
      rotate_left
      · intro w' hSw; (try dsimp only at hSw); go_simp; try with_reducible rfl
      try simp only [Act.put, List.setIfInBounds_toArray, List.set_cons_zero, List.set_cons_succ]
      refine takeWE (i := 2) (d := (some 30)) (v := ?_) rfl rfl (by kernel_rfl) (by kernel_rfl) (by kernel_rfl) (by kernel_rfl) (by kernel_rfl) (fun _ _ _ h => h) (by rfl) ?_ (by assumption) ?_
      rotate_left
      · intro w' hSw; (try dsimp only at hSw); go_simp; try with_reducible rfl
      try simp only [Act.put, List.setIfInBounds_toArray, List.set_cons_zero, List.set_cons_succ]
      refine takeWE (i := 3) (d := (some 31)) (v := ?_) rfl rfl (by kernel_rfl) (by kernel_rfl) (by kernel_rfl) (by kernel_rfl) (by kernel_rfl) (fun _ _ _ h => h) (by rfl) ?_ (by assumption) ?_
      rotate_left
      · intro w' hSw; (try dsimp only at hSw); go_simp; try with_reducible rfl
      try simp only [Act.put, List.setIfInBounds_toArray, List.set_cons_zero, List.set_cons_succ]
      refine takeWE (i := 4) (d := (some 32)) (v := ?_) rfl rfl (by kernel_rfl) (by kernel_rfl) (by kernel_rfl) (by kernel_rfl) (by kernel_rfl) (fun _ _ _ h => h) (by rfl) ?_ (by assumption) ?_
      rotate_left
      · intro w' hSw; (try dsimp only at hSw); go_simp; try with_reducible rfl
      try simp only [Act.put, List.setIfInBounds_toArray, List.set_cons_zero, List.set_cons_succ]
      refine takeWE (i := 5) (d := (some 33)) (v := ?_) rfl rfl (by kernel_rfl) (by kernel_rfl) (by kernel_rfl) (by kernel_rfl) (by kernel_rfl) (fun _ _ _ h => h) (by rfl) ?_ (by assumption) ?_
      rotate_left
      · intro w' hSw; (try dsimp only at hSw); go_simp; try with_reducible rfl
      try simp only [Act.put, List.setIfInBounds_toArray, List.set_cons_zero, List.set_cons_succ]
      refine takeWE (i := 6) (d := (some 34)) (v := ?_) rfl rfl (by kernel_rfl) (by kernel_rfl) (by kernel_rfl) (by kernel_rfl) (by kernel_rfl) (fun _ _ _ h => h) (by rfl) ?_ (by assumption) ?_
      rotate_left
      · intro w' hSw; (try dsimp only at hSw); go_simp; try with_reducible rfl
      try simp only [Act.put, List.setIfInBounds_toArray, List.set_cons_zero, List.set_cons_succ]
      refine takeWE (i := 7) (d := (some 35)) (v := ?_) rfl rfl (by kernel_rfl) (by kernel_rfl) (by kernel_rfl) (by kernel_rfl) (by kernel_rfl) (fun _ _ _ h => h) (by rfl) ?_ (by assumption) ?_
      rotate_left
      · intro w' hSw; (try dsimp only at hSw); go_simp; try with_reducible rfl
      try simp only [Act.put, List.setIfInBounds_toArray, List.set_cons_zero, List.set_cons_succ]
      refine takeWE (i := 8) (d := (some 36)) (v := ?_) rfl rfl (by kernel_rfl) (by kernel_rfl) (by kernel_rfl) (by kernel_rfl) (by kernel_rfl) (fun _ _ _ h => h) (by rfl) ?_ (by assumption) ?_
      rotate_left
      · intro w' hSw; (try dsimp only at hSw); go_simp; try with_reducible rfl
      try simp only [Act.put, List.setIfInBounds_toArray, List.set_cons_zero, List.set_cons_succ]
      refine takeWE (i := 9) (d := (some 37)) (v := ?_) rfl rfl (by kernel_rfl) (by kernel_rfl) (by kernel_rfl) (by kernel_rfl) (by kernel_rfl) (fun _ _ _ h => h) (by rfl) ?_ (by assumption) ?_
      rotate_left
      · intro w' hSw; (try dsimp only at hSw); go_simp; try with_reducible rfl
      try simp only [Act.put, List.setIfInBounds_toArray, List.set_cons_zero, List.set_cons_succ]
      refine takeWE (i := 10) (d := (some 38)) (v := ?_) rfl rfl (by kernel_rfl) (by kernel_rfl) (by kernel_rfl) (by kernel_rfl) (by kernel_rfl) (fun _ _ _ h => h) (by rfl) ?_ (by assumption) ?_
      rotate_left
      · intro w' hSw; (try dsimp only at hSw); go_simp; try with_reducible rfl
      try simp only [Act.put, List.setIfInBounds_toArray, List.set_cons_zero, List.set_cons_succ]
      refine takeWE (i := 11) (d := (some 39)) (v := ?_) rfl rfl (by kernel_rfl) (by kernel_rfl) (by kernel_rfl) (by kernel_rfl) (by kernel_rfl) (fun _ _ _ h => h) (by rfl) ?_ (by assumption) ?_
      rotate_left
      · intro w' hSw; (try dsimp only at hSw); go_simp; try with_reducible rfl
      try simp only [Act.put, List.setIfInBounds_toArray, List.set_cons_zero, List.set_cons_succ]
      refine takeWE (i := 12) (d := (some 40)) (v := ?_) rfl rfl (by kernel_rfl) (by kernel_rfl) (by kernel_rfl) (by kernel_rfl) (by kernel_rfl) (fun _ _ _ h => h) (by rfl) ?_ (by assumption) ?_
      rotate_left
      · intro w' hSw; (try dsimp only at hSw); go_simp; try with_reducible rfl
      try simp only [Act.put, List.setIfInBounds_toArray, List.set_cons_zero, List.set_cons_succ]
      refine takeWE (i := 13) (d := (some 41)) (v := ?_) rfl rfl (by kernel_rfl) (by kernel_rfl) (by kernel_rfl) (by kernel_rfl) (by kernel_rfl) (fun _ _ _ h => h) (by rfl) ?_ (by assumption) ?_
      rotate_left
      · intro w' hSw; (try dsimp only at hSw); go_simp; try with_reducible rfl
      try simp only [Act.put, List.setIfInBounds_toArray, List.set_cons_zero, List.set_cons_succ]
      refine takeWE (i := 14) (d := (some 42)) (v := ?_) rfl rfl (by kernel_rfl) (by kernel_rfl) (by kernel_rfl) (by kernel_rfl) (by kernel_rfl) (fun _ _ _ h => h) (by rfl) ?_ (by assumption) ?_
      rotate_left
      · intro w' hSw; (try dsimp only at hSw); go_simp; try with_reducible rfl
      try simp only [Act.put, List.setIfInBounds_toArray, List.set_cons_zero, List.set_cons_succ]
      refine takeWE (i := 15) (d := (some 43)) (v := ?_) rfl rfl (by kernel_rfl) (by kernel_rfl) (by kernel_rfl) (by kernel_rfl) (by kernel_rfl) (fun _ _ _ h => h) (by rfl) ?_ (by assumption) ?_
      rotate_left
      · intro w' hSw; (try dsimp only at hSw); go_simp; try with_reducible rfl
      try simp only [Act.put, List.setIfInBounds_toArray, List.set_cons_zero, List.set_cons_succ]
      refine takeWE (i := 16) (d := (some 44)) (v := ?_) rfl rfl (by kernel_rfl) (by kernel_rfl) (by kernel_rfl) (by kernel_rfl) (by kernel_rfl) (fun _ _ _ h => h) (by rfl) ?_ (by assumption) ?_
      rotate_left
      · intro w' hSw; (try dsimp only at hSw); go_simp; try with_reducible rfl
      try simp only [Act.put, List.setIfInBounds_toArray, List.set_cons_zero, List.set_cons_succ]
      refine takeWE (i := 17) (d := (some 45)) (v := ?_) rfl rfl (by kernel_rfl) (by kernel_rfl) (by kernel_rfl) (by kernel_rfl) (by kernel_rfl) (fun _ _ _ h => h) (by rfl) ?_ (by assumption) ?_
      rotate_left
      · intro w' hSw; (try dsimp only at hSw); go_simp; try with_reducible rfl
      try simp only [Act.put, List.setIfInBounds_toArray, List.set_cons_zero, List.set_cons_succ]
      refine takeWE (i := 18) (d := (some 46)) (v := ?_) rfl rfl (by kernel_rfl) (by kernel_rfl) (by kernel_rfl) (by kernel_rfl) (by kernel_rfl) (fun _ _ _ h => h) (by rfl) ?_ (by assumption) ?_
      rotate_left
      · intro w' hSw; (try dsimp only at hSw); go_simp; try with_reducible rfl
      try simp only [Act.put, List.setIfInBounds_toArray, List.set_cons_zero, List.set_cons_succ]
      refine takeWE (i := 20) (d := (some 48)) (v := ?_) rfl rfl (by kernel_rfl) (by kernel_rfl) (by kernel_rfl) (by kernel_rfl) (by kernel_rfl) (fun _ _ _ h => h) (by rfl) ?_ (by assumption) ?_
      rotate_left
      · intro w' hSw; (try dsimp only at hSw); go_simp; try with_reducible rfl
      try simp only [Act.put, List.setIfInBounds_toArray, List.set_cons_zero, List.set_cons_succ]
      refine takeWE (i := 21) (d := (some 49)) (v := ?_) rfl rfl (by kernel_rfl) (by kernel_rfl) (by kernel_rfl) (by kernel_rfl) (by kernel_rfl) (fun _ _ _ h => h) (by rfl) ?_ (by assumption) ?_
      rotate_left
      · intro w' hSw; (try dsimp only at hSw); go_simp; try with_reducible rfl
      try simp only [Act.put, List.setIfInBounds_toArray, List.set_cons_zero, List.set_cons_succ]
      refine takeWE (i := 22) (d := (some 50)) (v := ?_) rfl rfl (by kernel_rfl) (by kernel_rfl) (by kernel_rfl) (by kernel_rfl) (by kernel_rfl) (fun _ _ _ h => h) (by rfl) ?_ (by assumption) ?_
      rotate_left
      · intro w' hSw; (try dsimp only at hSw); go_simp; try with_reducible rfl
      try simp only [Act.put, List.setIfInBounds_toArray, List.set_cons_zero, List.set_cons_succ]
      refine takeWE (i := 23) (d := (some 51)) (v := ?_) rfl rfl (by kernel_rfl) (by kernel_rfl) (by kernel_rfl) (by kernel_rfl) (by kernel_rfl) (fun _ _ _ h => h) (by rfl) ?_ (by assumption) ?_
      rotate_left
      · intro w' hSw; (try dsimp only at hSw); go_simp; try with_reducible rfl
      try simp only [Act.put, List.setIfInBounds_toArray, List.set_cons_zero, List.set_cons_succ]
      refine takeWE (i := 24) (d := (some 52)) (v := ?_) rfl rfl (by kernel_rfl) (by kernel_rfl) (by kernel_rfl) (by kernel_rfl) (by kernel_rfl) (fun _ _ _ h => h) (by rfl) ?_ (by assumption) ?_
      rotate_left
      · intro w' hSw; (try dsimp only at hSw); go_simp; try with_reducible rfl
      try simp only [Act.put, List.setIfInBounds_toArray, List.set_cons_zero, List.set_cons_succ]
      refine takeWE (i := 25) (d := (some 53)) (v := ?_) rfl rfl (by kernel_rfl) (by kernel_rfl) (by kernel_rfl) (by kernel_rfl) (by kernel_rfl) (fun _ _ _ h => h) (by rfl) ?_ (by assumption) ?_
      rotate_left
      · intro w' hSw; (try dsimp only at hSw); go_simp; try with_reducible rfl
      try simp only [Act.put, List.setIfInBounds_toArray, List.set_cons_zero, List.set_cons_succ]
      refine takeWE (i := 26) (d := (some 54)) (v := ?_) rfl rfl (by kernel_rfl) (by kernel_rfl) (by kernel_rfl) (by kernel_rfl) (by kernel_rfl) (fun _ _ _ h => h) (by rfl) ?_ (by assumption) ?_
      rotate_left
      · intro w' hSw; (try dsimp only at hSw); go_simp; try with_reducible rfl
      try simp only [Act.put, List.setIfInBounds_toArray, List.set_cons_zero, List.set_cons_succ]
      refine wpE_ready (rs := [19]) (by kernel_rfl) (by simp) ?_
      refine AllE.cons rfl (fun K hK => ?_) (AllE.nil)
      go_simp
      go_at_call 27
      (with_reducible refine (roomy_any _ xA _ xc xd rfl (HRX.out.keep0 HCD.out) (by have := HXL.out; omega)).mono ?_)
      rintro e w5 ⟨A5, c5, rfl, hown5, hc5⟩
      have HO5 : Hid (w5.ownsRow wd.heap.size 5 1 (.slice A5 xd.length c5) xd.length (cB xd)) := by
        have h := own_prefix hown5 (m := xd.length) (by omega)
        rw [cB_app, List.take_left' (cB_len xd)] at h
        exact h
      have hcap5 := own_cap hown5
      have sl5 := fun w => run_slice_hi (P := Try.prog) w Try.underlying33 hi8 A5 (xd.length + 1) c5 (xd.length : Int) xd.length rfl (by omega)
      have HC5 := Lib.hid (HCD.out.trans hc5 (by simp))
      clear hown5 hcap5
      go_wp2_with (fail)
      refine hK.out _ _ ?_ (fun hHeld => ?_)
      · exact KK.out _ HC5.out
      clear hK K
      try simp only [Act.put, List.setIfInBounds_toArray, List.set_cons_zero, List.set_cons_succ]
      refine takeWE (i := 27) (d := (some 55)) (v := ?_) rfl rfl (by kernel_rfl) (by kernel_rfl) (by kernel_rfl) (by kernel_rfl) (by kernel_rfl) (fun _ _ _ h => h) (by rfl) ?_ (by assumption) ?_
      rotate_left
      · intro w' hSw; (try dsimp only at hSw); go_simp; try with_reducible rfl
      try simp only [Act.put, List.setIfInBounds_toArray, List.set_cons_zero, List.set_cons_succ]
      refine takeWE (i := 28) (d := (some 56)) (v := ?_) rfl rfl (by kernel_rfl) (by kernel_rfl) (by kernel_rfl) (by kernel_rfl) (by kernel_rfl) (fun _ _ _ h => h) (by rfl) ?_ (by assumption) ?_
      rotate_left
      · intro w' hSw; (try dsimp only at hSw); go_simp; try with_reducible rfl
      try simp only [Act.put, List.setIfInBounds_toArray, List.set_cons_zero, List.set_cons_succ]
      refine wpE_ready (rs := [29]) (by kernel_rfl) (by simp) ?_
      refine AllE.cons rfl (fun K hK => ?_) (AllE.nil)
      go_simp
      go_wp2_with (fail)
      have HC6 := Lib.hid (HC5.out.alloc (.cells #[.int .i64 xf, .int .i64 xt, .slice A5 xd.length c5] 35))
      refine hK.out _ _ ?_ (fun hHeld => ?_)
      · exact KK.out _ HC6.out
      clear hK K
      try simp only [Act.put, List.setIfInBounds_toArray, List.set_cons_zero, List.set_cons_succ]
      refine wpE_ready (rs := [30]) (by kernel_rfl) (by simp) ?_
      refine AllE.cons rfl (fun K hK => ?_) (AllE.nil)
      refine wp_append_rd _ (.tmp 28) (.tmp 57) 22 (by rfl) 0 35 i1 _ 3 40 Try.underlying22 hi1 hy0 hy1 hy2 rfl (by omega) (.slice B xs.length cb) xs.length (cMs xs) (by simp [Act.eval, Act.put]) (own_k0 HP.out.1 HC6.out) (some ⟨w5.heap.size, 0, none⟩) 1 1 (cMs [⟨xf, xt, xd, A5, c5⟩]) (by simp [Act.eval, Act.put]) (Rd.new' rfl rfl rfl) (cMs_one _) (by unfold maxLen; omega) (by omega) (Nat.zero_le _) ?_
      intro A7 c7 w7 hown7 hg7 hb7
      rw [← cMs_app] at hown7
      have g7 : Chg (blk B) (w5.alloc (.cells #[.int .i64 xf, .int .i64 xt, .slice A5 xd.length c5] 35)) w7 := (Chg.of_grown hg7).mono (by rw [own_blk]; exact fun _ h => .inl h)
      have HC7 : Hid (Chg (blk B) wr w7) := (HC6.out.mono (T := blk B) (by simp)).trans g7 (fun x hx => .inl hx)
      have HB7 : Hid (∀ j ∈ blk A7, j ∈ blk B ∨ wr.heap.size ≤ j) := fun j hj => by
        rcases hb7 with h | h
        · rw [h, own_blk] at hj; exact .inl hj
        · rw [h] at hj
          obtain rfl := List.mem_singleton.1 hj
          exact .inr HC6.out.size
      have HO7 := Lib.hid hown7
      have HX7 : Hid (w7.ownsRow wr.heap.size 5 1 (.slice A5 xd.length c5) xd.length (cB xd)) := by
        have h1 := own_k0 HO5.out ((Chg.refl [] w5).alloc (.cells #[.int .i64 xf, .int .i64 xt, .slice A5 xd.length c5] 35))
        have h2 := own_keep h1 g7 (fun j hj hm => by
          have h3 := (own_in HP.out.1 j hm).2
          have h4 := (HO5.out.lt j hj).1
          have h5 := HCD.out.size
          omega)
        exact own_up h2 HCD.out.size
      clear hown7 hg7 hb7 g7
      refine hK.out _ _ ?_ (fun hHeld => ?_)
      · exact ⟨((HT.out.get 1 rfl).keep HC7.out (fun hm => HGB.out gb hm rfl)).cell 4, (HC7.out.cell (p := (ad.add (q * 3))) (by rw [add_block]; exact HAD.out) (fun hm => HOLD.out _ hm (by rw [add_block]; exact HAD0.out))).trans HA0.out, (HC7.out.cell (p := ⟨(ad.add (q * 3)).block, (ad.add (q * 3)).off + 1, none⟩) (by show (ad.add (q * 3)).block < _; rw [add_block]; exact HAD.out) (fun hm => HOLD.out _ hm (by show (ad.add (q * 3)).block < _; rw [add_block]; exact HAD0.out))).trans HA1.out, (HC7.out.cell (p := ⟨(ad.add (q * 3)).block, (ad.add (q * 3)).off + 2, none⟩) (by show (ad.add (q * 3)).block < _; rw [add_block]; exact HAD.out) (fun hm => HOLD.out _ hm (by show (ad.add (q * 3)).block < _; rw [add_block]; exact HAD0.out))).trans HA2.out⟩
      clear hK K
      try simp only [Act.put, List.setIfInBounds_toArray, List.set_cons_zero, List.set_cons_succ]
      refine wpE_ready (rs := [31]) (by kernel_rfl) (by simp) ?_
      refine AllE.last rfl (by kernel_rfl) (fun K hK => ?_)
      go_simp
      go_wp2_with (fail)
      refine hK.out _ _ ?_
      clear hK K hHeld
      have HN : Hid (Tw w0 w7 gn gx l l (rMsg A7 c7 (xs ++ [⟨xf, xt, xd, A5, c5⟩]) 0 :: rAt gb 26 #[.int .i64 1, .int .i64 n, .int .i64 m, .int .u8 (b.toNat : Int), .slice (some ad) ls.length c] :: rs)) := HT.out.msg HC7.out HO7.out HX7.out HB7.out
      have HE7 : Hid ((xs ++ [(⟨xf, xt, xd, A5, c5⟩ : MsgV)]).map MsgV.val = (ls.take (q + 1)).map MsgV.val) := by
        unfold Hid
        rw [HTK.out, List.map_append, List.map_append, HE.out]; rfl
      have hsz7 := HC7.out.size
      have hw7 : w.heap.size ≤ w7.heap.size := by omega
      clear HO7 HX7 HB7 HC7 HC6 HC5 HO5 HCD HP HT KK
      go_wp2_with (fail)
      go_roundw
      case rel => exact ⟨q + 1, A7, c7, xs ++ [⟨xf, xt, xd, A5, c5⟩], by omega, by go_num, by rw [List.length_append]; rfl, HE7, HN, by rw [hgb] at *; omega⟩
      case measure => simp [intOf]; omega
    · obtain rfl : q = ls.length := by omega
      rw [List.take_length] at HE
      have HE0 := HE
      have HXLEN : Hid (xs.length = ls.length) := by have h := congrArg List.length HE.out; rw [List.length_map, List.length_map] at h; exact h
      have hqi : ¬ (ls.length : Int) < (ls.length : Int) := by omega
      have HSD : Hid (sendL l xs xs.length = l') := by
        unfold Hid
        rw [← HL.out]
        unfold sendL
        rw [HE.out, HXLEN.out]
      have C1 : Hid (∀ (v : World), Tw w0 v gn gx l l (rMsg B cb xs 0 :: rAt gb 26 #[.int .i64 1, .int .i64 n, .int .i64 m, .int .u8 (b.toNat : Int), .slice A ls.length c] :: rs) → Calls Try.prog 11 #[.pointer (some ⟨gn, 0, none⟩), .slice B xs.length cb] v fun e w' => e = .returned (.int .i64 r) ∧ Tw w0 w' gn gx l' l (rMsg B cb xs 0 :: rAt gb 26 #[.int .i64 1, .int .i64 n, .int .i64 m, .int .u8 (b.toNat : Int), .slice A ls.length c] :: rs) ∧ v.heap.size ≤ w'.heap.size) := fun v hv => by
        obtain ⟨A9, k9, m9, e9, H9⟩ := hv.net
        refine (send_all H9 HI.out.len B _ cb xs rfl (by omega) (fun w' _ hN => ?_)).mono ?_
        · obtain ⟨l9, hN⟩ := hN
          obtain ⟨o1, o2⟩ := hN.at_ 1 rfl
          refine ⟨Rd.of_own o1, fun x hx => ?_⟩
          obtain ⟨j, hj, rfl⟩ := List.getElem_of_mem hx
          have h9 := o2 j hj (Nat.zero_le _)
          refine ⟨Rd.of_own h9, fun hA => ?_, ?_⟩
          · rcases h9.2 with ⟨h4, _⟩ | ⟨g, cap, cur, h4, _⟩
            · injection h4
            · injection h4 with h4; rw [hA] at h4; cases h4
          · have h10 : xs[j].d = ls[j].d := by
              have h1 := congrArg (fun z => z[j]?) HE.out
              simp only [List.getElem?_map] at h1
              rw [List.getElem?_eq_getElem hj, List.getElem?_eq_getElem (by rw [← HXLEN.out]; exact hj)] at h1
              simp [MsgV.val] at h1
              exact h1.2.2
            rw [h10]
            exact Nat.le_trans (hD _ (List.getElem_mem _)) (by omega)
        · rintro e w1 ⟨rfl, h1, h2⟩
          rw [HSD.out] at h1
          exact ⟨by rw [HXLEN.out, HR.out], .ofN e9 h1, h2⟩
      have C2 : Hid (∀ (v : World), Tw w0 v gn gx l' l (rMsg B cb xs 0 :: rAt gb 26 #[.int .i64 1, .int .i64 n, .int .i64 m, .int .u8 (b.toNat : Int), .slice A ls.length c] :: rs) → Calls Try.prog 28 #[.pointer (some ⟨gx, 0, none⟩), .slice A ls.length c] v fun e w' => e = .returned (.int .i64 r) ∧ Tw w0 w' gn gx l' l' (rMsg B cb xs 0 :: rAt gb 26 #[.int .i64 1, .int .i64 n, .int .i64 m, .int .u8 (b.toNat : Int), .slice A ls.length c] :: rs) ∧ v.heap.size ≤ w'.heap.size) := fun v hv => by
        obtain ⟨A9, k9, m9, e9, H9⟩ := hv.ref
        refine (rsend_all H9 HI.out.len A _ c ls rfl (by omega) (fun w' _ hN => ?_)).mono ?_
        · obtain ⟨l9, hN⟩ := hN
          exact HMI.out.k hN.chg
        · rintro e w1 ⟨rfl, h1, h2⟩
          rw [HL.out] at h1
          exact ⟨by rw [HR.out], .ofR e9 h1, h2⟩
      go_wp2_with (fail)
      clear x4
      refine wp_regionE 8 (fun w' => w'.cell? ⟨gb, 4, none⟩ = some (.slice A ls.length c)) (by kernel_rfl) ?_ (fun hHeld => ?_)
      · exact ((HT.out.quiet ((Chg.refl [] wr).drew)).get 1 rfl).cell 4
      have HT0 := Lib.hid (HT.out.quiet ((Chg.refl [] wr).drew))
      have HSZ0 : Hid (gb ≤ wr.drew.heap.size) := Nat.le_trans hwr ((Chg.refl [] wr).drew).size
      clear HT
      generalize wr.drew = v0 at *
      refine takeWE (i := 0) (d := (some 59)) (v := ?_) rfl rfl (by kernel_rfl) (by kernel_rfl) (by kernel_rfl) (by kernel_rfl) (by kernel_rfl) (fun _ _ _ h => h) (by rfl) ?_ (by assumption) ?_
      rotate_left
      · intro w' hSw; (try dsimp only at hSw); go_simp; try with_reducible rfl
      try simp only [Act.put, List.setIfInBounds_toArray, List.set_cons_zero, List.set_cons_succ]
      refine takeWE (i := 1) (d := (some 60)) (v := ?_) rfl rfl (by kernel_rfl) (by kernel_rfl) (by kernel_rfl) (by kernel_rfl) (by kernel_rfl) (fun _ _ _ h => h) (by rfl) ?_ (by assumption) ?_
      rotate_left
      · intro w' hSw; (try dsimp only at hSw); go_simp; try with_reducible rfl
      try simp only [Act.put, List.setIfInBounds_toArray, List.set_cons_zero, List.set_cons_succ]
      refine takeWE (i := 3) (d := (some 62)) (v := ?_) rfl rfl (by kernel_rfl) (by kernel_rfl) (by kernel_rfl) (by kernel_rfl) (by kernel_rfl) (fun _ _ _ h => h) (by rfl) ?_ (by assumption) ?_
      rotate_left
      · intro w' hSw; (try dsimp only at hSw); go_simp; try with_reducible rfl
      try simp only [Act.put, List.setIfInBounds_toArray, List.set_cons_zero, List.set_cons_succ]
      refine takeWE (i := 4) (d := (some 63)) (v := ?_) rfl rfl (by kernel_rfl) (by kernel_rfl) (by kernel_rfl) (by kernel_rfl) (by kernel_rfl) (fun _ _ _ h => h) (by rfl) ?_ (by assumption) ?_
      rotate_left
      · intro w' hSw; (try dsimp only at hSw); go_simp; try with_reducible rfl
      try simp only [Act.put, List.setIfInBounds_toArray, List.set_cons_zero, List.set_cons_succ]
      refine takeWE (i := 5) (d := (some 64)) (v := ?_) rfl rfl (by kernel_rfl) (by kernel_rfl) (by kernel_rfl) (by kernel_rfl) (by kernel_rfl) (fun _ _ _ h => h) (by rfl) ?_ (by assumption) ?_
      rotate_left
      · intro w' hSw; (try dsimp only at hSw); go_simp; try with_reducible rfl
      try simp only [Act.put, List.setIfInBounds_toArray, List.set_cons_zero, List.set_cons_succ]
      refine wpE_ready (rs := [2]) (by kernel_rfl) (by simp) ?_
      refine AllE.cons rfl (fun K hK => ?_) (AllE.nil)
      go_simp
      go_at_call 11
      (with_reducible refine (C1.out _ HT0.out).mono ?_)
      rintro e v1 ⟨rfl, hB, hS⟩
      have HT1 := Lib.hid hB
      have HSZ1 := Lib.hid (Nat.le_trans HSZ0.out hS)
      clear hB hS
      go_wp2_with (fail)
      refine hK.out _ _ ?_ (fun hHeld => ?_)
      · exact (HT1.out.get 1 rfl).cell 4
      clear hK K
      try simp only [Act.put, List.setIfInBounds_toArray, List.set_cons_zero, List.set_cons_succ]
      refine wpE_ready (rs := [6]) (by kernel_rfl) (by simp) ?_
      refine AllE.cons rfl (fun K hK => ?_) (AllE.nil)
      go_simp
      go_at_call 28
      (with_reducible refine (C2.out _ HT1.out).mono ?_)
      rintro e v2 ⟨rfl, hB, hS⟩
      have HT2 := Lib.hid hB
      have HSZ2 := Lib.hid (Nat.le_trans HSZ1.out hS)
      clear hB hS
      go_wp2_with (fail)
      refine hK.out _ _ ?_ (fun hHeld => ?_)
      · exact (HT2.out.get 1 rfl).cell 4
      clear hK K
      try simp only [Act.put, List.setIfInBounds_toArray, List.set_cons_zero, List.set_cons_succ]
      refine takeWE (i := 7) (d := (some 9)) (v := ?_) rfl rfl (by kernel_rfl) (by kernel_rfl) (by kernel_rfl) (by kernel_rfl) (by kernel_rfl) (fun _ _ _ h => h) (by rfl) ?_ (by assumption) ?_
      rotate_left
      · intro w' hSw; (try dsimp only at hSw); go_simp; try with_reducible rfl
      try simp only [Act.put, List.setIfInBounds_toArray, List.set_cons_zero, List.set_cons_succ]
      refine wpE_ready (rs := [8]) (by kernel_rfl) (by simp) ?_
      refine AllE.last rfl (by kernel_rfl) (fun K hK => ?_)
      go_simp
      go_wp2_with (fail)
      refine hK.out _ _ ?_
      clear hK K hHeld
      have HT2' := Lib.hid HT2.out
      have HS2 := Lib.hid HSZ2.out
      clear HT2 HSZ2 HE0
      go_wp2_with (fail)
      go_loopw [11] (fun i wr => ∃ q : Nat, q ≤ ls.length ∧ i = .int .i64 q ∧ Hid (Tw w0 wr gn gx l' l' (rMsg B cb xs q :: rAt gb 26 #[.int .i64 1, .int .i64 n, .int .i64 m, .int .u8 (b.toNat : Int), .slice A ls.length c] :: rs)) ∧ gb ≤ wr.heap.size) (fun i _ => ls.length - (intOf i).toNat)
      case atStart => exact ⟨0, Nat.zero_le _, rfl, HT2', HS2.out⟩
      case round =>
        clear HT2' HS2
        obtain ⟨q, hq, rfl, HT, hs⟩ := hrel
        have hwr : gb ≤ wr.heap.size := hs
        by_cases hlt : q < ls.length
        · have hqx : q < xs.length := by rw [HXLEN.out]; exact hlt
          have hMI := HMI.out.k HT.out.chg
          obtain ⟨ad, rfl, had, a0, a1, a2⟩ := hMI.get3 hlt
          have hIn := hMI.each _ (List.getElem_mem hlt)
          have hdl := hD ls[q] (List.getElem_mem hlt)
          obtain ⟨bd, rfl, hbd, b0, b1, b2⟩ := (Rd.of_own (HT.out.get 0 rfl).1).getMs hqx
          have HOWN := Lib.hid ((HT.out.get 0 rfl).2 q hqx (Nat.le_refl _))
          have hval : xs[q].val = ls[q].val := by
            have h1 := congrArg (fun z => z[q]?) HE.out
            simp only [List.getElem?_map] at h1
            rw [List.getElem?_eq_getElem hqx, List.getElem?_eq_getElem hlt] at h1
            simpa using h1
          generalize hxq : xs[q] = xq at *
          generalize ls[q] = x at *
          obtain ⟨xf, xt, xd, xA, xc⟩ := x
          obtain ⟨yf, yt, yd, B5, b5⟩ := xq
          simp only [MsgV.val, MV.mk.injEq, and_true] at hval
          obtain ⟨rfl, rfl, rfl⟩ := hval
          have HXQ : Hid (xs[q]? = some ⟨yf, yt, yd, B5, b5⟩) := by unfold Hid; rw [List.getElem?_eq_getElem hqx, hxq]
          simp only at a0 a1 a2 b0 b1 b2 HOWN hdl
          have HXL : Hid (yd.length ≤ 8000) := hdl
          have HRX := Lib.hid hIn.rd
          simp only at HRX
          have HAD := Lib.hid had
          have HBD := Lib.hid hbd
          have HA0 := Lib.hid a0
          have HA1 := Lib.hid a1
          have HA2 := Lib.hid a2
          have hqi : (q : Int) < (ls.length : Int) := by omega
          have hqj : (q : Int) < (xs.length : Int) := by omega
          have KK : Hid (∀ w', Chg [] wr w' → w'.cell? ⟨gb, 4, none⟩ = some (.slice (some ad) ls.length c) ∧ w'.cell? (ad.add (q * 3)) = some (.int .i64 yf) ∧ w'.cell? ⟨(ad.add (q * 3)).block, (ad.add (q * 3)).off + 1, none⟩ = some (.int .i64 yt) ∧ w'.cell? ⟨(ad.add (q * 3)).block, (ad.add (q * 3)).off + 2, none⟩ = some (.slice xA yd.length xc) ∧ w'.cell? (bd.add (q * 3)) = some (.int .i64 yf) ∧ w'.cell? ⟨(bd.add (q * 3)).block, (bd.add (q * 3)).off + 1, none⟩ = some (.int .i64 yt) ∧ w'.cell? ⟨(bd.add (q * 3)).block, (bd.add (q * 3)).off + 2, none⟩ = some (.slice B5 yd.length b5)) := fun w' hc => ⟨((HT.out.get 1 rfl).keep hc (by simp)).cell 4, (hc.cell (p := (ad.add (q * 3))) (by rw [add_block]; exact HAD.out) (by simp)).trans HA0.out, (hc.cell (p := ⟨(ad.add (q * 3)).block, (ad.add (q * 3)).off + 1, none⟩) (by show (ad.add (q * 3)).block < _; rw [add_block]; exact HAD.out) (by simp)).trans HA1.out, (hc.cell (p := ⟨(ad.add (q * 3)).block, (ad.add (q * 3)).off + 2, none⟩) (by show (ad.add (q * 3)).block < _; rw [add_block]; exact HAD.out) (by simp)).trans HA2.out, (hc.cell (p := (bd.add (q * 3))) (by rw [add_block]; exact HBD.out) (by simp)).trans b0, (hc.cell (p := ⟨(bd.add (q * 3)).block, (bd.add (q * 3)).off + 1, none⟩) (by show (bd.add (q * 3)).block < _; rw [add_block]; exact HBD.out) (by simp)).trans b1, (hc.cell (p := ⟨(bd.add (q * 3)).block, (bd.add (q * 3)).off + 2, none⟩) (by show (bd.add (q * 3)).block < _; rw [add_block]; exact HBD.out) (by simp)).trans b2⟩
          clear hMI hIn hxq hdl a0 a1 a2 b0 b1 b2 had hbd
          go_wp2_with (fail)
          refine wp_regionE 10 (fun w' => w'.cell? ⟨gb, 4, none⟩ = some (.slice (some ad) ls.length c) ∧ w'.cell? (ad.add (q * 3)) = some (.int .i64 yf) ∧ w'.cell? ⟨(ad.add (q * 3)).block, (ad.add (q * 3)).off + 1, none⟩ = some (.int .i64 yt) ∧ w'.cell? ⟨(ad.add (q * 3)).block, (ad.add (q * 3)).off + 2, none⟩ = some (.slice xA yd.length xc) ∧ w'.cell? (bd.add (q * 3)) = some (.int .i64 yf) ∧ w'.cell? ⟨(bd.add (q * 3)).block, (bd.add (q * 3)).off + 1, none⟩ = some (.int .i64 yt) ∧ w'.cell? ⟨(bd.add (q * 3)).block, (bd.add (q * 3)).off + 2, none⟩ = some (.slice B5 yd.length b5)) (by kernel_rfl) ?_ (fun hHeld => ?_)
          · exact KK.out _ ((Chg.refl [] wr).drew)
          have HCD : Hid (Chg [] wr wr.drew) := (Chg.refl [] wr).drew
          have HM := Lib.hid (message_any wr.drew yf yt yf yt B5 xA yd.length yd.length b5 xc yd yd rfl rfl ((Rd.of_own HOWN.out).keep0 HCD.out) (HRX.out.keep0 HCD.out) (by have := HXL.out; omega))
          have hdd : decide (yf = yf ∧ yt = yt ∧ yd = yd) = true := by simp
          rw [hdd] at HM
          clear hdd HOWN
          generalize wr.drew = wd at *
          refine takeWE (i := 0) (d := (some 72)) (v := ?_) rfl rfl (by kernel_rfl) (by kernel_rfl) (by kernel_rfl) (by kernel_rfl) (by kernel_rfl) (fun _ _ _ h => h) (by rfl) ?_ (by assumption) ?_
          rotate_left
          · intro w' hSw; (try dsimp only at hSw); go_simp; try with_reducible rfl
          try simp only [Act.put, List.setIfInBounds_toArray, List.set_cons_zero, List.set_cons_succ]
          refine takeWE (i := 1) (d := (some 73)) (v := ?_) rfl rfl (by kernel_rfl) (by kernel_rfl) (by kernel_rfl) (by kernel_rfl) (by kernel_rfl) (fun _ _ _ h => h) (by rfl) ?_ (by assumption) ?_
          rotate_left
          · intro w' hSw; (try dsimp only at hSw); go_simp; try with_reducible rfl
          try simp only [Act.put, List.setIfInBounds_toArray, List.set_cons_zero, List.set_cons_succ]
          refine takeWE (i := 2) (d := (some 74)) (v := ?_) rfl rfl (by kernel_rfl) (by kernel_rfl) (by kernel_rfl) (by kernel_rfl) (by kernel_rfl) (fun _ _ _ h => h) (by rfl) ?_ (by assumption) ?_
          rotate_left
          · intro w' hSw; (try dsimp only at hSw); go_simp; try with_reducible rfl
          try simp only [Act.put, List.setIfInBounds_toArray, List.set_cons_zero, List.set_cons_succ]
          refine takeWE (i := 3) (d := (some 75)) (v := ?_) rfl rfl (by kernel_rfl) (by kernel_rfl) (by kernel_rfl) (by kernel_rfl) (by kernel_rfl) (fun _ _ _ h => h) (by rfl) ?_ (by assumption) ?_
          rotate_left
          · intro w' hSw; (try dsimp only at hSw); go_simp; try with_reducible rfl
          try simp only [Act.put, List.setIfInBounds_toArray, List.set_cons_zero, List.set_cons_succ]
          refine takeWE (i := 4) (d := (some 76)) (v := ?_) rfl rfl (by kernel_rfl) (by kernel_rfl) (by kernel_rfl) (by kernel_rfl) (by kernel_rfl) (fun _ _ _ h => h) (by rfl) ?_ (by assumption) ?_
          rotate_left
          · intro w' hSw; (try dsimp only at hSw); go_simp; try with_reducible rfl
          try simp only [Act.put, List.setIfInBounds_toArray, List.set_cons_zero, List.set_cons_succ]
          refine takeWE (i := 5) (d := (some 77)) (v := ?_) rfl rfl (by kernel_rfl) (by kernel_rfl) (by kernel_rfl) (by kernel_rfl) (by kernel_rfl) (fun _ _ _ h => h) (by rfl) ?_ (by assumption) ?_
          rotate_left
          · intro w' hSw; (try dsimp only at hSw); go_simp; try with_reducible rfl
          try simp only [Act.put, List.setIfInBounds_toArray, List.set_cons_zero, List.set_cons_succ]
          refine takeWE (i := 6) (d := (some 78)) (v := ?_) rfl rfl (by kernel_rfl) (by kernel_rfl) (by kernel_rfl) (by kernel_rfl) (by kernel_rfl) (fun _ _ _ h => h) (by rfl) ?_ (by assumption) ?_
          rotate_left
          · intro w' hSw; (try dsimp only at hSw); go_simp; try with_reducible rfl
          try simp only [Act.put, List.setIfInBounds_toArray, List.set_cons_zero, List.set_cons_succ]
          refine takeWE (i := 7) (d := (some 79)) (v := ?_) rfl rfl (by kernel_rfl) (by kernel_rfl) (by kernel_rfl) (by kernel_rfl) (by kernel_rfl) (fun _ _ _ h => h) (by rfl) ?_ (by assumption) ?_
          rotate_left
          · intro w' hSw; (try dsimp only at hSw); go_simp; try with_reducible rfl
          try simp only [Act.put, List.setIfInBounds_toArray, List.set_cons_zero, List.set_cons_succ]
          refine takeWE (i := 8) (d := (some 80)) (v := ?_) rfl rfl (by kernel_rfl) (by kernel_rfl) (by kernel_rfl) (by kernel_rfl) (by kernel_rfl) (fun _ _ _ h => h) (by rfl) ?_ (by assumption) ?_
          rotate_left
          · intro w' hSw; (try dsimp only at hSw); go_simp; try with_reducible rfl
          try simp only [Act.put, List.setIfInBounds_toArray, List.set_cons_zero, List.set_cons_succ]
          refine wpE_ready (rs := [9]) (by kernel_rfl) (by simp) ?_
          refine AllE.cons rfl (fun K hK => ?_) (AllE.nil)
          go_simp
          go_at_call 14
          (with_reducible refine HM.out.mono ?_)
          rintro e v2 ⟨rfl, hc2⟩
          have HC2 := Lib.hid (HCD.out.trans hc2 (by simp))
          clear hc2
          go_wp2_with (fail)
          refine hK.out _ _ ?_ (fun hHeld => ?_)
          · exact KK.out _ HC2.out
          clear hK K
          try simp only [Act.put, List.setIfInBounds_toArray, List.set_cons_zero, List.set_cons_succ]
          refine wpE_ready (rs := [10]) (by kernel_rfl) (by simp) ?_
          refine AllE.last rfl (by kernel_rfl) (fun K hK => ?_)
          go_simp
          go_wp2_with (fail)
          refine hK.out _ _ ?_
          clear hK K hHeld
          have HTm := Lib.hid (HT.out.quiet HC2.out)
          have hw2 := HC2.out.size
          have k0 := (KK.out _ HC2.out).2.2.2.2.1
          have k1 := (KK.out _ HC2.out).2.2.2.2.2.1
          have k2 := (KK.out _ HC2.out).2.2.2.2.2.2
          have HOW := Lib.hid ((HTm.out.get 0 rfl).2 q hqx (Nat.le_refl _))
          have hxe : xs[q]'hqx = ⟨yf, yt, yd, B5, b5⟩ := by have h := HXQ.out; rw [List.getElem?_eq_getElem hqx] at h; exact Option.some.inj h
          rw [hxe] at HOW
          simp only at HOW
          have HXE := Lib.hid hxe
          clear hxe
          clear KK HT HCD HC2 HM
          go_wp2_with (fail)
          refine (spoil_any _ 0 B5 yd.length b5 (cB yd) HOW.out (by have := HXL.out; omega) (Nat.zero_le _)).mono ?_
          rintro e w6 ⟨rfl, hc6⟩
          have HN := Lib.hid (HTm.out.spoilt (q := q) hqx (by have h := HXE.out; rw [h]; exact hc6))
          have hw6 := hc6.size
          have hww : w.heap.size ≤ w6.heap.size := by omega
          clear hc6 HTm k0 k1 k2 HOW
          go_wp2_with (fail)
          go_roundw
          case rel => exact ⟨q + 1, by omega, by go_num, HN, by rw [hgb] at *; omega⟩
          case measure => simp [intOf]; omega
        · obtain rfl : q = ls.length := by omega
          have hqi : ¬ (ls.length : Int) < (ls.length : Int) := by omega
          have hqj : ¬ (ls.length : Int) < (xs.length : Int) := by have := HXLEN.out; omega
          go_wp2_with (fail)
          go_ret
          exact ⟨rfl, HT.out.tail.tail, by first | exact hs | (rw [hgb]; exact hs)⟩
end
end Go.Proofs.Ytbgdcplbekoemaa
