
/-
  net: the reference: what it holds in memory; a message of its own.
-/
import Derived.Test.YtbgdcplbekoemaaNetN
import Derived.Test.YtbgdcplbekoemaaHeldE
import Derived.Test.YtbgdcplbekoemaaKeep
namespace Go.Proofs.Ytbgdcplbekoemaa
open Go.RowKit
set_option linter.unusedVariables false
set_option linter.unusedSimpArgs false
attribute [local go_sem ↓] run_min2 run_max2

theorem info_itm : (Try.prog.info? 72).map (fun i => (i.zero, i.size, i.bytes)) = some (some (.agg #[.int .i64 0, .int .i64 0, .slice none 0 0, .bool false]), 4, 48) := by kernel_rfl
/-- A Net in memory: made since w0; its messages' bytes are its own. -/
structure RefH (w0 w : World) (gn : Nat) (A : Option Addr) (c : Nat) (ms : List UdV) : Prop where
  at_ : At w gn 50 #[.slice A ms.length c]
  row : w.ownsRow w0.heap.size 72 4 (.slice A ms.length c) ms.length (cUd ms)
  dat : ∀ m ∈ ms, w.ownsRow w0.heap.size 5 1 (.slice m.A m.d.length m.cp) m.d.length (cB m.d)
  new : w0.heap.size ≤ gn
  chg : Chg [] w0 w

theorem RefH.keep {w0 w w' : World} {gn : Nat} {A : Option Addr} {c : Nat} {ms : List UdV} (h : RefH w0 w gn A c ms) (hc : Chg [] w w') : RefH w0 w' gn A c ms :=
  ⟨h.at_.keep hc (by simp), own_keep h.row hc (fun _ _ hm => by simp at hm), fun m hm => own_keep (h.dat m hm) hc (fun _ _ hm => by simp at hm), h.new, h.chg.trans hc (by simp)⟩
theorem itm_size : (Try.prog.info? 72).map (·.size) = some 4 := by kernel_rfl
theorem ret_itm2 {fn : Func} {p q : Tmp} {tmps : Array Value} {w : World} {g : Nat} {T : TypeId} {cs : Array Value} {v : Value} {Post : Ending → World → Prop} (hs : cs.size = 4) (h : fn.results = #[.cell p 72, .tmp q])
    (hp : tmps.getD p undef = .pointer (some ⟨g, 0, none⟩)) (hq : tmps.getD q undef = v) (hg : At w g T cs) (hpost : Post (.returned (.tuple #[.agg cs, v])) w) :
    bodyPost Try.prog fn Post Exit.ret ⟨tmps, []⟩ w := by
  refine bodyPost_ret (v := .tuple #[.agg cs, v]) ?_ rfl hpost
  have hp' : tmps[p]?.getD undef = .pointer (some ⟨g, 0, none⟩) := by simpa using hp
  have hq' : tmps[q]?.getD undef = v := by simpa using hq
  simp [results, h, hp', hq', asAddr, run_loadVar_row w g T 72 _ (0, 0) _ hg Try.underlying72 rfl (itm_size.trans (by rw [hs]))]
def RefP (gn : Nat) (A : Option Addr) (c : Nat) (ms : List UdV) (w : World) : Prop :=
  At w gn 50 #[.slice A ms.length c] ∧ w.ownsRow 0 72 4 (.slice A ms.length c) ms.length (cUd ms) ∧ ∀ m ∈ ms, w.ownsRow 0 5 1 (.slice m.A m.d.length m.cp) m.d.length (cB m.d)
def rRef (gn : Nat) (A : Option Addr) (c : Nat) (ms : List UdV) : Res := ⟨netF gn A ms, RefP gn A c ms⟩
theorem rRef_stable (w0 : World) (gn : Nat) (A : Option Addr) (c : Nat) (ms : List UdV) : Stable w0 (rRef gn A c ms) := fun w w' h hs hk =>
  ⟨At.stable h.1 (hk gn (At.lt h.1) (.inl (by simp [rRef, netF]))), own_stable h.2.1 (fun b hb hm => hk b hb (.inl (by simp [rRef, netF, hm]))), fun m hm => own_stable (h.2.2 m hm) (fun b hb hj => hk b hb (.inl (by simp only [rRef, netF, List.mem_cons, List.mem_append]; exact .inr (.inr (mem_datF hm hj)))))⟩
section
variable {w0 w w' : World} {gn : Nat} {A A' : Option Addr} {c c' : Nat} {ms ms' : List UdV} {rs : List Res}
theorem RefH.of_all (h : All w0 w (rRef gn A c ms :: rs)) : RefH w0 w gn A c ms := by
  obtain ⟨h1, h2, h3⟩ := h.get 0 rfl
  have hr := h.rng 0 rfl
  refine ⟨h1, own_base h2 (fun j hj => (hr j ?_).1), fun m hm => own_base (h3 m hm) (fun j hj => (hr j ?_).1), (hr gn (by simp [rRef, netF])).1, h.chg⟩
  · simp only [rRef, netF, List.mem_cons, List.mem_append]; exact .inr (.inl (bo _ _ _ _ hj))
  · simp only [rRef, netF, List.mem_cons, List.mem_append]; exact .inr (.inr (mem_datF hm (bo _ _ _ _ hj)))
theorem RefH.p (h : RefH w0 w gn A c ms) : RefP gn A c ms w := ⟨h.at_, own_base h.row (fun _ _ => Nat.zero_le _), fun m hm => own_base (h.dat m hm) (fun _ _ => Nat.zero_le _)⟩
theorem RefH.nodup (h : RefH w0 w gn A c ms) (hd : (datF ms).Nodup) : (netF gn A ms).Nodup := by
  refine List.nodup_cons.2 ⟨fun hm => ?_, List.nodup_append.2 ⟨blk_nodup A, hd, fun a ha b hb hab => ?_⟩⟩
  · rcases List.mem_append.1 hm with h1 | h1
    · exact own_at_ne h.row h.at_ (by decide) gn (ob _ _ _ _ h1) rfl
    · obtain ⟨m, hm, hj⟩ := List.mem_flatMap.1 h1
      exact own_at_ne (h.dat m hm) h.at_ (by decide) gn (ob _ _ _ _ hj) rfl
  · subst hab
    obtain ⟨m, hm, hj⟩ := List.mem_flatMap.1 hb
    exact own_ne1 h.row (h.dat m hm) (by decide) a (ob _ _ _ _ ha) (ob _ _ _ _ hj)
theorem RefH.lt (h : RefH w0 w gn A c ms) : ∀ j ∈ netF gn A ms, j < w.heap.size := fun j hj => by
  rcases List.mem_cons.1 hj with rfl | hj
  · exact h.at_.lt
  · rcases List.mem_append.1 hj with h1 | h1
    · exact (own_in h.row j h1).2
    · obtain ⟨m, hm, hj⟩ := List.mem_flatMap.1 h1
      exact (own_in (h.dat m hm) j hj).2
theorem ref_datF (h : All w0 w (rRef gn A c ms :: rs)) : (datF ms).Nodup := by
  have hn := h.nodup
  simp only [List.map_cons, List.flatten_cons, List.nodup_append] at hn
  exact (List.nodup_append.1 (List.nodup_cons.1 hn.1).2).2.1
theorem RefH.head (H : All w0 w (rRef gn A c ms :: rs)) (hc : Chg (netF gn A ms) w w') (h : RefH w0 w' gn A' c' ms') (hA : ∀ j ∈ blk A', j ∈ netF gn A ms ∨ w.heap.size ≤ j) (hd : ∀ j ∈ Go.Proofs.Ytbgdcplbekoemaa.datF ms', j ∈ netF gn A ms ∨ w.heap.size ≤ j) (hn : (Go.Proofs.Ytbgdcplbekoemaa.datF ms').Nodup) : All w0 w' (rRef gn A' c' ms' :: rs) := by
  refine H.head hc _ (fun b hb => ⟨?_, h.lt b hb⟩) (h.nodup hn) h.p (rRef_stable _ _ _ _ _)
  rcases List.mem_cons.1 hb with rfl | hb
  · exact .inl (by simp [rRef, netF])
  · rcases List.mem_append.1 hb with h1 | h1
    · exact hA b h1
    · exact hd b h1
end
/-- A Net with these messages, among other things. -/
def RefA (w0 w : World) (gn : Nat) (l : List MV) (rs : List Res) : Prop := ∃ A c ms, ms.map UdV.val = l ∧ All w0 w (rRef gn A c ms :: rs)
section
variable {w0 w w' : World} {gn : Nat} {l : List MV} {rs : List Res}
theorem RefA.quiet (h : RefA w0 w gn l rs) (hc : Chg [] w w') : RefA w0 w' gn l rs := by
  obtain ⟨A, c, ms, e, H⟩ := h
  exact ⟨A, c, ms, e, H.quiet hc⟩
theorem RefA.at_ (h : RefA w0 w gn l rs) (i : Nat) {r : Res} (hi : rs[i]? = some r) : r.P w := by
  obtain ⟨A, c, ms, _, H⟩ := h
  exact H.get (i + 1) (by simpa using hi)
/-- Things beside the Net change among themselves. -/
theorem RefA.beside (h : RefA w0 w gn l rs) {rs' : List Res} (f : ∀ r, All w0 w (rs ++ [r]) → All w0 w' (rs' ++ [r])) : RefA w0 w' gn l rs' := by
  obtain ⟨A, c, ms, e, H⟩ := h
  have h2 := f _ (H.perm (List.perm_append_singleton _ _).symm)
  exact ⟨A, c, ms, e, h2.perm (List.perm_append_singleton _ _)⟩
theorem RefA.newAt (h : RefA w0 w gn l rs) (t : TypeId) (cs : Array Value) {g : Nat} (hg : g = w.heap.size) : RefA w0 (w.alloc (.cells cs t)) gn l (rAt g t cs :: rs) := h.beside fun r H => H.newAt t cs hg
theorem RefA.ruin {r : Res} (h : RefA w0 w gn l (r :: rs)) (hc : Chg r.F w w') : RefA w0 w' gn l rs := h.beside fun r H => H.ruin hc
theorem RefA.tail {r : Res} (h : RefA w0 w gn l (r :: rs)) : RefA w0 w gn l rs := h.ruin (Chg.refl _ _)
theorem RefA.row (h : RefA w0 w gn l rs) (hc : Chg [] w w') {e : TypeId} {A : Option Addr} {n c : Nat} {xs : List Value} (ho : w'.ownsRow w.heap.size e 1 (.slice A n c) n xs) : RefA w0 w' gn l (rRow 0 e A n c xs :: rs) := h.beside fun r H => H.row hc ho
theorem RefA.chg (h : RefA w0 w gn l rs) : Chg [] w0 w := by
  obtain ⟨A, c, ms, _, H⟩ := h
  exact H.chg
theorem RefA.swap {a b : Res} (h : RefA w0 w gn l (a :: b :: rs)) : RefA w0 w gn l (b :: a :: rs) := h.beside fun r H => H.perm (List.Perm.swap _ _ _)
theorem RefA.ap {a b : Res} (h : RefA w0 w gn l (a :: b :: rs)) : ∀ x ∈ b.F, x ∉ a.F := by
  obtain ⟨A, c, ms, _, H⟩ := h
  exact ((H.front 1 rfl).apart 1 rfl)
theorem RefA.lt {a : Res} (h : RefA w0 w gn l (a :: rs)) : ∀ x ∈ a.F, w0.heap.size ≤ x ∧ x < w.heap.size := by
  obtain ⟨A, c, ms, _, H⟩ := h
  exact H.rng 1 rfl
/-- What lies in memory of the i-th message. -/
theorem RefA.pick (h : RefA w0 w gn l rs) {i : Nat} {m : MV} (hm : l[i]? = some m) :
    ∃ g c B c2, w.cell? ⟨gn, 0, none⟩ = some (.slice (some ⟨g, 0, none⟩) l.length c) ∧ w.cell? ⟨g, i * 4, none⟩ = some (.int .i64 m.f) ∧ w.cell? ⟨g, i * 4 + 1, none⟩ = some (.int .i64 m.t) ∧ w.cell? ⟨g, i * 4 + 2, none⟩ = some (.slice B m.d.length c2) ∧ w.cell? ⟨g, i * 4 + 3, none⟩ = some (.bool m.sp) ∧ Rd w 1 B m.d.length (cB m.d) ∧ (B = none → c2 = 0) := by
  obtain ⟨A, c, ms, rfl, H⟩ := h
  rw [List.getElem?_map] at hm
  obtain ⟨mi, hmi, rfl⟩ := Option.map_eq_some_iff.1 hm
  obtain ⟨hi, rfl⟩ := List.getElem?_eq_some_iff.1 hmi
  obtain ⟨h1, h2, h3⟩ := H.get 0 rfl
  obtain ⟨g, rfl⟩ : ∃ g, A = some ⟨g, 0, none⟩ := by
    rcases h2.2 with ⟨_, h4⟩ | ⟨g, cap, cur, h4, _⟩
    · omega
    · injection h4 with h4; exact ⟨g, h4⟩
  have ho := h3 ms[i] (List.getElem_mem hi)
  have hR : ∀ (j : Nat) (hj : j < 4) u, (ms[i].cells)[j]? = some u → w.cell? ⟨g, i * 4 + j, none⟩ = some u := fun j hj u hu => by
    obtain ⟨ad, ha, _, hc⟩ := (Rd.of_own h2).at_ (by omega)
    obtain rfl : ad = ⟨g, 0, none⟩ := by injection ha with ha; exact ha.symm
    have := hc (i * 4 + j) u (by rw [cUd_get hi hj]; exact hu)
    have e : (⟨g, 0, none⟩ : Addr).add (i * 4 + j) = ⟨g, i * 4 + j, none⟩ := by unfold Addr.add; split <;> simp_all
    rwa [e] at this
  refine ⟨g, c, ms[i].A, ms[i].cp, by rw [List.length_map]; exact (h1.cell 0).trans rfl, hR 0 (by omega) _ rfl, hR 1 (by omega) _ rfl, hR 2 (by omega) _ rfl, hR 3 (by omega) _ rfl, Rd.of_own ho, fun hA => ?_⟩
  rcases ho.2 with ⟨h4, _⟩ | ⟨g, cap, cur, h4, _⟩
  · injection h4
  · injection h4 with h4; rw [hA] at h4; cases h4
theorem RefA.newRd {w0 w : World} {gn : Nat} {l : List MV} {rs : List Res} (h : RefA w0 w gn l rs) (t : TypeId) (xs : List Value) (fr : Nat × Nat) {g : Nat} (hg : g = w.heap.size) : RefA w0 (w.alloc (.cells xs.toArray t fr)) gn l (rRd g xs :: rs) := h.beside fun r H =>
  H.new ((Chg.refl [] w).alloc _) (rRd g xs) (fun b hb => by simp [rRd] at hb; subst hb hg; simp) (by simp [rRd]) (Rd.new' hg rfl (by simp)) (rRd_stable _ _ _)
theorem RefA.front {w0 w : World} {gn : Nat} {l : List MV} {rs : List Res} (h : RefA w0 w gn l rs) (i : Nat) {r : Res} (hi : rs[i]? = some r) : RefA w0 w gn l (r :: rs.eraseIdx i) := h.beside fun q H => by
  refine H.perm ?_
  have h1 := perm_front rs i r hi
  exact h1.append_right [q]
end
theorem ret_msg1 {fn : Func} {p : Tmp} {tmps : Array Value} {w : World} {g : Nat} {T : TypeId} {cs : Array Value} {Post : Ending → World → Prop} (hs : cs.size = 3) (h : fn.results = #[.cell p 35])
    (hp : tmps.getD p undef = .pointer (some ⟨g, 0, none⟩)) (hg : At w g T cs) (hpost : Post (.returned (.agg cs)) w) :
    bodyPost Try.prog fn Post Exit.ret ⟨tmps, []⟩ w := by
  refine bodyPost_ret (v := .agg cs) ?_ rfl hpost
  have hp' : tmps[p]?.getD undef = .pointer (some ⟨g, 0, none⟩) := by simpa using hp
  simp [results, h, hp', asAddr, run_loadVar_row w g T 35 _ (0, 0) _ hg Try.underlying35 rfl (msg_size.trans (by rw [hs]))]
set_option maxHeartbeats 3200000 in
set_option maxRecDepth 100000 in
theorem rown_any (w : World) (f t : Int) (B : Option Addr) (n c : Nat) (d : List UInt8) (hn : d.length = n) (hr : Rd w 1 B d.length (cB d)) (hdl : d.length ≤ 1099511627776) :
    Calls Try.prog 40 #[.agg #[.int .i64 f, .int .i64 t, .slice B n c]] w fun e w' => ∃ A4 c4, e = .returned (.agg #[.int .i64 f, .int .i64 t, .slice A4 d.length c4]) ∧ w'.ownsRow w.heap.size 5 1 (.slice A4 d.length c4) d.length (cB d) ∧ Chg [] w w' := by
  subst hn
  obtain ⟨i0, hi, hz0, hz1, hz2⟩ := info_parts info_u8n
  have q0 := ((Chg.refl [] w).alloc (.cells #[.int .i64 f, .int .i64 t, .slice B d.length c] 35)).alloc (.cells #[.int .i64 0, .int .i64 0, .slice none 0 0] 35)
  have z0 := Lib.hid ((At.new w 35 #[.int .i64 f, .int .i64 t, .slice B d.length c]).al (.cells #[.int .i64 0, .int .i64 0, .slice none 0 0] 35))
  have z1 := Lib.hid (At.newG (w.alloc (.cells #[.int .i64 f, .int .i64 t, .slice B d.length c] 35)) 35 #[.int .i64 0, .int .i64 0, .slice none 0 0] (g := w.heap.size + 1) (by simp))
  have HR := Lib.hid (hr.keep0 q0)
  have HCZ := Lib.hid q0
  have HZ0 := z0
  have HZ1 := z1
  clear q0 hr z0 z1
  go_enter Try.func40, Try.ntmps40
  go_upto_region 1 with (fail)
  generalize ((w.alloc (.cells #[.int .i64 f, .int .i64 t, .slice B d.length c] 35)).alloc (.cells #[.int .i64 0, .int .i64 0, .slice none 0 0] 35)) = wz at *
  generalize hg0 : w.heap.size = g0 at *
  have KK : Hid (∀ w', Chg [] wz w' → w'.cell? ⟨g0, 0, none⟩ = some (.int .i64 f) ∧ w'.cell? ⟨g0, 1, none⟩ = some (.int .i64 t) ∧ w'.cell? ⟨g0, 2, none⟩ = some (.slice B d.length c)) := fun w' hc => ⟨(HZ0.out.keep hc (by simp)).cell 0, (HZ0.out.keep hc (by simp)).cell 1, (HZ0.out.keep hc (by simp)).cell 2⟩
  refine wp_regionE 9 (fun w' => w'.cell? ⟨g0, 0, none⟩ = some (.int .i64 f) ∧ w'.cell? ⟨g0, 1, none⟩ = some (.int .i64 t) ∧ w'.cell? ⟨g0, 2, none⟩ = some (.slice B d.length c)) (by kernel_rfl) ?_ (fun hHeld => ?_)
  · exact KK.out _ ((Chg.refl [] wz).drew)
  have HDR : Chg [] wz wz.drew := (Chg.refl [] wz).drew
  have Z : Hid (At wz.drew (g0 + 1) 35 #[.int .i64 0, .int .i64 0, .slice none 0 0]) := HZ1.out.keep HDR (by simp)
  have ZB : Hid (At wz.drew g0 35 #[.int .i64 f, .int .i64 t, .slice B d.length c]) := HZ0.out.keep HDR (by simp)
  have RD : Hid (Rd wz.drew 1 B d.length (cB d)) := HR.out.keep0 HDR
  have HCD : Hid (Chg [] w wz.drew) := HCZ.out.trans HDR (by simp)
  clear HDR KK HZ0 HZ1 HR HCZ
  generalize wz.drew = wd at *
  have KD : Hid (∀ w', Chg [] wd w' → w'.cell? ⟨g0, 0, none⟩ = some (.int .i64 f) ∧ w'.cell? ⟨g0, 1, none⟩ = some (.int .i64 t) ∧ w'.cell? ⟨g0, 2, none⟩ = some (.slice B d.length c)) := fun w' hc => ⟨(ZB.out.keep hc (by simp)).cell 0, (ZB.out.keep hc (by simp)).cell 1, (ZB.out.keep hc (by simp)).cell 2⟩
  refine takeWE (i := 0) (d := (some 3)) (v := ?_) rfl rfl (by kernel_rfl) (by kernel_rfl) (by kernel_rfl) (by kernel_rfl) (by kernel_rfl) (fun _ _ _ h => h) (by rfl) ?_ (by assumption) ?_
  rotate_left
  · intro w' hSw; (try dsimp only at hSw); go_simp; try with_reducible rfl
  try simp only [Act.put, List.setIfInBounds_toArray, List.set_cons_zero, List.set_cons_succ]
  refine takeWE (i := 1) (d := (some 4)) (v := ?_) rfl rfl (by kernel_rfl) (by kernel_rfl) (by kernel_rfl) (by kernel_rfl) (by kernel_rfl) (fun _ _ _ h => h) (by rfl) ?_ (by assumption) ?_
  rotate_left
  · intro w' hSw; (try dsimp only at hSw); go_simp; try with_reducible rfl
  try simp only [Act.put, List.setIfInBounds_toArray, List.set_cons_zero, List.set_cons_succ]
  refine takeWE (i := 2) (d := (some 5)) (v := ?_) rfl rfl (by kernel_rfl) (by kernel_rfl) (by kernel_rfl) (by kernel_rfl) (by kernel_rfl) (fun _ _ _ h => h) (by rfl) ?_ (by assumption) ?_
  rotate_left
  · intro w' hSw; (try dsimp only at hSw); go_simp; try with_reducible rfl
  try simp only [Act.put, List.setIfInBounds_toArray, List.set_cons_zero, List.set_cons_succ]
  refine takeWE (i := 3) (d := (some 6)) (v := ?_) rfl rfl (by kernel_rfl) (by kernel_rfl) (by kernel_rfl) (by kernel_rfl) (by kernel_rfl) (fun _ _ _ h => h) (by rfl) ?_ (by assumption) ?_
  rotate_left
  · intro w' hSw; (try dsimp only at hSw); go_simp; try with_reducible rfl
  try simp only [Act.put, List.setIfInBounds_toArray, List.set_cons_zero, List.set_cons_succ]
  refine takeWE (i := 5) (d := (some 8)) (v := ?_) rfl rfl (by kernel_rfl) (by kernel_rfl) (by kernel_rfl) (by kernel_rfl) (by kernel_rfl) (fun _ _ _ h => h) (by rfl) ?_ (by assumption) ?_
  rotate_left
  · intro w' hSw; (try dsimp only at hSw); go_simp; try with_reducible rfl
  try simp only [Act.put, List.setIfInBounds_toArray, List.set_cons_zero, List.set_cons_succ]
  refine takeWE (i := 6) (d := (some 9)) (v := ?_) rfl rfl (by kernel_rfl) (by kernel_rfl) (by kernel_rfl) (by kernel_rfl) (by kernel_rfl) (fun _ _ _ h => h) (by rfl) ?_ (by assumption) ?_
  rotate_left
  · intro w' hSw; (try dsimp only at hSw); go_simp; try with_reducible rfl
  try simp only [Act.put, List.setIfInBounds_toArray, List.set_cons_zero, List.set_cons_succ]
  refine wpE_ready (rs := [4]) (by kernel_rfl) (by simp) ?_
  refine AllE.cons rfl (fun K hK => ?_) (AllE.nil)
  go_simp
  go_wp2_with (fail)
  refine hK.out _ _ ?_ (fun hHeld => ?_)
  · exact KD.out _ ((Chg.refl [] wd).alloc _)
  clear hK K
  try simp only [Act.put, List.setIfInBounds_toArray, List.set_cons_zero, List.set_cons_succ]
  refine wpE_ready (rs := [7]) (by kernel_rfl) (by simp) ?_
  refine AllE.cons rfl (fun K hK => ?_) (AllE.nil)
  refine wp_append_rd _ (.tmp 7) (.tmp 9) 33 (by rfl) wd.heap.size 5 i0 _ 1 1 Try.underlying33 hi hz0 hz1 hz2 rfl (by omega) (.slice (some ⟨wd.heap.size, 0, none⟩) 0 0) 0 [] (by simp [Act.eval, Act.put]) (World.ownsRow_made wd #[] 0 (Nat.le_refl _) (by simp [maxLen]) rfl) B d.length c (cB d) (by simp [Act.eval, Act.put]) (RD.out.alloc _) (cB_one _) (by unfold maxLen; omega) (by omega) (by simp) ?_
  intro A4 c4 w4 hown4 hg4 hb4
  simp only [Nat.zero_add, List.nil_append] at hown4
  have hc4 : Chg [] wd w4 := ((Chg.refl [] wd).alloc _).grown hg4 (fun k hk => .inr (by simp [Value.ownBlock] at hk; omega))
  have Z4 := Lib.hid (Z.out.keep hc4 (by simp))
  have OW4 := Lib.hid hown4
  clear hown4 hg4 hb4
  have y0 := Z4.out.cell 0
  have y1 := Z4.out.cell 1
  have y2 := Z4.out.cell 2
  have fy0 := Z4.out.free 0
  have fy1 := Z4.out.free 1
  have fy2 := Z4.out.free 2
  simp only [List.getElem?_toArray, List.getElem?_cons_zero, List.getElem?_cons_succ] at y0 y1 y2
  refine hK.out _ _ ?_ (fun hHeld => ?_)
  · exact KD.out _ hc4
  clear hK K
  try simp only [Act.put, List.setIfInBounds_toArray, List.set_cons_zero, List.set_cons_succ]
  refine takeWE (i := 8) (d := (some 11)) (v := ?_) rfl rfl (by kernel_rfl) (by kernel_rfl) (by kernel_rfl) (by kernel_rfl) (by kernel_rfl) (fun _ _ _ h => h) (by rfl) ?_ (by assumption) ?_
  rotate_left
  · intro w' hSw; (try dsimp only at hSw); go_simp; try with_reducible rfl
  try simp only [Act.put, List.setIfInBounds_toArray, List.set_cons_zero, List.set_cons_succ]
  refine wpE_ready (rs := [9]) (by kernel_rfl) (by simp) ?_
  refine AllE.last rfl (by kernel_rfl) (fun K hK => ?_)
  go_simp
  go_wp2_with (fail)
  refine hK.out _ _ ?_
  clear hK K hHeld
  go_wp2_with (fail)
  refine ret_msg1 (g := g0 + 1) (T := 35) (cs := #[.int .i64 f, .int .i64 t, .slice A4 d.length c4]) rfl Try.results40 rfl ?_ ?_
  · have h := ((Z4.out.set_ 0 (.int .i64 f)).set_ 1 (.int .i64 t)).set_ 2 (.slice A4 d.length c4)
    simpa using h
  · have q9 : Chg [g0 + 1] w4 (((w4.setCell ⟨g0 + 1, 0, none⟩ (.int .i64 f)).setCell ⟨g0 + 1, 1, none⟩ (.int .i64 t)).setCell ⟨g0 + 1, 2, none⟩ (.slice A4 d.length c4)) := (((Chg.refl _ _).setCell (.inl (by simp)) _).setCell (.inl (by simp)) _).setCell (.inl (by simp)) _
    have hsw := HCD.out.size
    refine ⟨A4, c4, rfl, own_base (own_keep OW4.out q9 (fun j hj hm => ?_)) (fun j hj => ?_), (HCD.out.trans hc4 (by simp)).trans q9 (by simp; omega)⟩
    · have h1 := (OW4.out.lt j hj).1
      have h2 := Z.out.lt
      simp at hm
      omega
    · have h1 := (OW4.out.lt j hj).1
      omega
end Go.Proofs.Ytbgdcplbekoemaa
