
/-
  net: Spoil.
-/
import Derived.Test.YtbgdcplbekoemaaNetG
import Derived.Test.YtbgdcplbekoemaaKeep
import Derived.Deep.RegionHeld3
import Derived.Deep.DeepCutAuto
import Derived.Test.YtbgdcplbekoemaaTake
import Derived.Laws.BitsAllLaws
namespace Go.Proofs.Ytbgdcplbekoemaa
open Go.RowKit
set_option linter.unusedVariables false
attribute [local go_sem ↓] run_min2 run_max2

theorem own_setN {w : World} {base : Nat} {e : TypeId} {size n c g : Nat} {xs : List Value} (h : w.ownsRow base e size (.slice (some ⟨g, 0, none⟩) n c) n xs) (k : Nat) (u : Value) :
    (w.setCell ⟨g, k, none⟩ u).ownsRow base e size (.slice (some ⟨g, 0, none⟩) n c) n (xs.set k u) := by
  refine ⟨by simp [h.1], ?_⟩
  rcases h.2 with ⟨h1, _⟩ | ⟨g', cap, cur, h1, h2, h3, h4, h5, h6, h7⟩
  · cases h1
  · injection h1 with h1 _ hcc
    injection h1 with h1
    injection h1 with h1
    subst h1 hcc
    refine .inr ⟨g, c, cur.setIfInBounds k u, rfl, h2, At.set_ (t := e) h3 k u, h4, h5, by simpa using h6, ?_⟩
    rw [← h7]
    simp only [Array.toList_setIfInBounds]
    rw [List.take_set]
theorem cUd_set : ∀ {ms : List UdV} {i : Nat} {x : UdV} {u : Value} (hi : i < ms.length) (hx : x.cells = (ms[i].cells).set 3 u), cUd (ms.set i x) = (cUd ms).set (i * 4 + 3) u
  | a :: l, 0, x, u, _, hx => by
    show cUd (x :: l) = (cUd (a :: l)).set 3 u
    show x.cells ++ cUd l = (a.cells ++ cUd l).set 3 u
    rw [List.set_append_left _ _ (by show 3 < 4; omega), hx]; rfl
  | a :: l, i + 1, x, u, hi, hx => by
    show a.cells ++ cUd (l.set i x) = (a.cells ++ cUd l).set ((i + 1) * 4 + 3) u
    rw [List.set_append_right _ _ (by show 4 ≤ _; omega), cUd_set (ms := l) (i := i) (by simpa using hi) hx]
    have e : (i + 1) * 4 + 3 - a.cells.length = i * 4 + 3 := by show (i + 1) * 4 + 3 - 4 = _; omega
    rw [e]
theorem cB_setN (l : List UInt8) (k : Nat) (x : UInt8) : cB (l.set k x) = (cB l).set k (.int .u8 (x.toNat : Int)) := by simp [cB, List.map_set]
theorem xor_u8 (x y : UInt8) : bits .xor .u8 (x.toNat : Int) (y.toNat : Int) = ((x ^^^ y).toNat : Int) := by
  rw [u8_xor_nat _ _ x.toNat_lt y.toNat_lt, UInt8.toNat_xor]
section
variable {w0 w w' : World} {gn : Nat} {l : List MV} {rs : List Res}
theorem own_free {w : World} {base : Nat} {e : TypeId} {size n c g : Nat} {xs : List Value} (h : w.ownsRow base e size (.slice (some ⟨g, 0, none⟩) n c) n xs) (j : Nat) : w.frozen? ⟨g, j, none⟩ = false := by
  rcases h.2 with ⟨h1, _⟩ | ⟨g', cap, cur, h1, h2, h3, _⟩
  · cases h1
  · injection h1 with h1 _ _
    injection h1 with h1
    injection h1 with h1
    subst h1
    exact At.free (t := e) h3 j
theorem datF_apart {A : Option Addr} {c : Nat} {ms : List UdV} (H : All w0 w (rNet gn A c ms :: rs)) {i k : Nat} (hi : i < ms.length) (hk : k < ms.length) (hne : k ≠ i) : ∀ j ∈ blk ms[i].A, j ∉ blk ms[k].A := fun j hj hj2 => by
  have h1 := (datF_erase (List.getElem?_eq_getElem hi)).nodup_iff.1 H.datF
  have h2 := (List.nodup_append.1 h1).2.2 j (mem_datF (m := ms[k]) (List.mem_eraseIdx_iff_getElem?.2 ⟨k, hne, List.getElem?_eq_getElem hk⟩) hj2) j hj
  exact h2 rfl
/-- A byte of a message is turned. -/
theorem spoilt_net {c g gd : Nat} {ms : List UdV} (H : All w0 w (rNet gn (some ⟨g, 0, none⟩) c ms :: rs)) {i : Nat} (hi : i < ms.length) (hB : ms[i].A = some ⟨gd, 0, none⟩) (j : Nat) (x : UInt8) :
    All w0 ((w.setCell ⟨gd, j, none⟩ (.int .u8 (x.toNat : Int))).setCell ⟨g, i * 4 + 3, none⟩ (.bool true)) (rNet gn (some ⟨g, 0, none⟩) c (ms.set i ⟨ms[i].f, ms[i].t, ms[i].d.set j x, ms[i].A, ms[i].cp, true⟩) :: rs) := by
  have N := NetH.of_all H
  have q1 : Chg [gd] w (w.setCell ⟨gd, j, none⟩ (.int .u8 (x.toNat : Int))) := (Chg.refl _ _).setCell (.inl (by simp)) _
  have q2 : Chg [g] (w.setCell ⟨gd, j, none⟩ (.int .u8 (x.toNat : Int))) ((w.setCell ⟨gd, j, none⟩ (.int .u8 (x.toNat : Int))).setCell ⟨g, i * 4 + 3, none⟩ (.bool true)) := (Chg.refl _ _).setCell (.inl (by simp)) _
  have hd0 := N.dat _ (List.getElem_mem hi)
  have hgr : (Value.slice (some ⟨g, 0, none⟩) ms.length c).ownBlock = some g := rfl
  have hgdo : (Value.slice ms[i].A ms[i].d.length ms[i].cp).ownBlock = some gd := by rw [hB]; rfl
  have hgm : g ≠ gd := fun e => own_ne1 N.row hd0 (by decide) g hgr (by rw [e]; exact hgdo)
  have hgn1 : gn ≠ gd := fun e => own_at_ne hd0 N.at_ (by decide) gd hgdo e.symm
  have hgn2 : gn ≠ g := fun e => own_at_ne N.row N.at_ (by decide) g hgr e.symm
  have hng : (datF ms).Nodup := H.datF
  have hlen : (ms.set i ⟨ms[i].f, ms[i].t, ms[i].d.set j x, ms[i].A, ms[i].cp, true⟩).length = ms.length := List.length_set
  have hdat : datF (ms.set i ⟨ms[i].f, ms[i].t, ms[i].d.set j x, ms[i].A, ms[i].cp, true⟩) = datF ms := by
    have e : (ms.set i ⟨ms[i].f, ms[i].t, ms[i].d.set j x, ms[i].A, ms[i].cp, true⟩).map UdV.A = ms.map UdV.A := by
      rw [List.map_set]
      have h1 : (ms.map UdV.A)[i]'(by simpa using hi) = ms[i].A := by simp
      rw [← h1]
      exact List.set_getElem_self _
    have f : ∀ l : List UdV, datF l = (l.map UdV.A).flatMap blk := fun l => by simp [datF, List.flatMap_map]
    rw [f, f, e]
  have hgdF : gd ∈ datF ms := mem_datF (List.getElem_mem hi) (by rw [hB]; simp [blk])
  have hF : Chg (netF gn (some ⟨g, 0, none⟩) ms) w ((w.setCell ⟨gd, j, none⟩ (.int .u8 (x.toNat : Int))).setCell ⟨g, i * 4 + 3, none⟩ (.bool true)) :=
    (q1.mono (fun a ha => .inl (by obtain rfl := List.mem_singleton.1 ha; simp [netF, hgdF]))).trans q2 (fun a ha => .inl (by obtain rfl := List.mem_singleton.1 ha; simp [netF, blk]))
  refine NetH.head H hF ⟨?_, ?_, fun m hm => ?_, N.new, ?_⟩ (fun a ha => .inl (by simp [netF, ha])) (fun a ha => .inl (by rw [hdat] at ha; simp [netF, ha])) (by rw [hdat]; exact hng)
  · rw [hlen]
    exact (N.at_.keep q1 (by simpa using hgn1)).keep q2 (by simpa using hgn2)
  · rw [hlen, cUd_set hi (u := .bool true) (by simp [UdV.cells])]
    exact own_setN (own_keep N.row q1 (fun a ha hm => by
      obtain rfl := List.mem_singleton.1 hm
      rw [hgr] at ha; injection ha with ha; exact hgm ha)) _ _
  · obtain ⟨k, hk, rfl⟩ := List.mem_iff_getElem.1 hm
    rw [hlen] at hk
    rw [List.getElem_set]
    split
    · rename_i e
      subst e
      simp only [List.length_set]
      rw [cB_setN, hB]
      rw [hB] at hd0
      refine own_keep (own_setN hd0 _ _) q2 (fun a ha hm => ?_)
      obtain rfl := List.mem_singleton.1 hm
      have h3 : some gd = some a := ha
      injection h3 with h3
      exact hgm h3.symm
    · rename_i hne
      have hdk := N.dat _ (List.getElem_mem hk)
      refine own_keep (own_keep hdk q1 (fun a ha hm => ?_)) q2 (fun a ha hm => ?_)
      · obtain rfl := List.mem_singleton.1 hm
        exact datF_apart H hi hk (fun e => hne e.symm) a (by rw [hB]; simp [blk]) (bo _ _ _ _ ha)
      · obtain rfl := List.mem_singleton.1 hm
        exact own_ne1 N.row hdk (by decide) a hgr ha
  · exact (N.chg.trans q1 (by have := (hd0.lt gd hgdo).1; simpa using this)).trans q2 (by have := (N.row.lt g hgr).1; simpa using this)

/-- What Spoil makes of a message. -/
def spoilM (m : MV) (j : Nat) (b : UInt8) : MV := ⟨m.f, m.t, m.d.set j ((m.d.getD j 0) ^^^ b), true⟩
set_option maxHeartbeats 1600000 in
theorem spoil_none (h : NetA w0 w gn [] rs) (p a b : Int) :
    Calls Try.prog 19 #[.pointer (some ⟨gn, 0, none⟩), .int .i64 p, .int .i64 a, .int .u8 b] w fun e w' => e = .returned (.bool false) ∧ w' = w := by
  have HP := Lib.hid (picked_nos h p)
  clear h
  go_enter Try.func19, Try.ntmps19
  go_wp2_with (fail)
  refine HP.out.mono ?_
  rintro e w1 ⟨rfl, rfl⟩
  go_wp2_with (fail)
  go_ret
  exact ⟨rfl, rfl⟩
set_option maxHeartbeats 3200000 in
theorem spoil_no (h : NetA w0 w gn l rs) (hp : 0 < l.length) (p a : Int) (b : UInt8) (m : MV) (hm : l[pickN p l.length]? = some m) (hno : b = 0 ∨ m.d.length = 0 ∨ m.sp = true) :
    Calls Try.prog 19 #[.pointer (some ⟨gn, 0, none⟩), .int .i64 p, .int .i64 a, .int .u8 (b.toNat : Int)] w fun e w' => e = .returned (.bool false) ∧ w' = w := by
  have HP := Lib.hid (picked_all h hp p)
  obtain ⟨g, c, B, c2, cn, r0, r1, r2, r3, hrd, hnil⟩ := h.pick hm
  have hii := pickN_lt (p := p) hp
  clear h hm hp hrd hnil
  obtain ⟨mf, mt, md, msp⟩ := m
  simp only at *
  generalize pickN p l.length = i at *
  have hii2 : (i : Int) < (l.length : Int) := by omega
  cases hb : ((b.toNat : Int) == 0)
  · have hb0 : b ≠ 0 := fun e => by subst e; simp at hb
    cases hd : ((md.length : Int) == 0)
    · have hd0 : ¬ md.length = 0 := fun e => by rw [e] at hd; simp at hd
      obtain rfl : msp = true := by
        rcases hno with h | h | h
        · exact absurd h hb0
        · exact absurd h hd0
        · exact h
      clear hno hd0 hb0
      go_enter Try.func19, Try.ntmps19
      go_wp2_with (fail)
      refine HP.out.mono ?_
      rintro e w1 ⟨rfl, rfl⟩
      go_wp2_with (fail)
      go_ret
      exact ⟨rfl, rfl⟩
    · clear hno hb0
      go_enter Try.func19, Try.ntmps19
      go_wp2_with (fail)
      refine HP.out.mono ?_
      rintro e w1 ⟨rfl, rfl⟩
      go_wp2_with (fail)
      go_ret
      exact ⟨rfl, rfl⟩
  · clear hno
    go_enter Try.func19, Try.ntmps19
    go_wp2_with (fail)
    refine HP.out.mono ?_
    rintro e w1 ⟨rfl, rfl⟩
    go_wp2_with (fail)
    go_ret
    exact ⟨rfl, rfl⟩
set_option maxRecDepth 100000 in
set_option maxHeartbeats 6400000 in
theorem spoil_yes (h : NetA w0 w gn l rs) (hp : 0 < l.length) (p a : Int) (b : UInt8) (m : MV) (hm : l[pickN p l.length]? = some m) (hb : b ≠ 0) (hd : 0 < m.d.length) (hsp : m.sp = false) (j : Nat) (hj : (max 0 a).toNat % m.d.length = j) :
    Calls Try.prog 19 #[.pointer (some ⟨gn, 0, none⟩), .int .i64 p, .int .i64 a, .int .u8 (b.toNat : Int)] w fun e w' => e = .returned (.bool true) ∧ NetA w0 w' gn (l.set (pickN p l.length) (spoilM m j b)) rs ∧ w.heap.size ≤ w'.heap.size := by
  have HP := Lib.hid (picked_all h hp p)
  have hii := pickN_lt (p := p) hp
  obtain ⟨A, c, ms, rfl, H⟩ := h
  rw [List.getElem?_map] at hm
  obtain ⟨mi, hmi, rfl⟩ := Option.map_eq_some_iff.1 hm
  rw [List.length_map] at HP hii hmi hp ⊢
  generalize pickN p ms.length = i at *
  obtain ⟨hi, rfl⟩ := List.getElem?_eq_some_iff.1 hmi
  obtain ⟨h1, h2, h3⟩ := H.get 0 rfl
  obtain ⟨g, rfl⟩ : ∃ g, A = some ⟨g, 0, none⟩ := by
    rcases h2.2 with ⟨_, h4⟩ | ⟨g, cap, cur, h4, _⟩
    · omega
    · injection h4 with h4; exact ⟨g, h4⟩
  have ho := h3 ms[i] (List.getElem_mem hi)
  have hd' : 0 < ms[i].d.length := hd
  obtain ⟨gd, hgd⟩ : ∃ gd, ms[i].A = some ⟨gd, 0, none⟩ := by
    rcases ho.2 with ⟨_, h4⟩ | ⟨g, cap, cur, h4, _⟩
    · omega
    · injection h4 with h4; exact ⟨g, h4⟩
  have hjl : j < ms[i].d.length := by rw [← hj]; exact Nat.mod_lt _ hd'
  have HS := Lib.hid (fun (w1 : World) (hc : Chg [] w w1) => spoilt_net (H.quiet hc) hi hgd j (ms[i].d[j] ^^^ b))
  have HEq : Hid (spoilM ms[i].val j b = ⟨ms[i].f, ms[i].t, ms[i].d.set j (ms[i].d[j] ^^^ b), true⟩) := by
    unfold Hid spoilM UdV.val
    simp only
    rw [List.getD_eq_getElem?_getD, List.getElem?_eq_getElem hjl]; rfl
  have HMap : Hid (∀ x : UdV, (ms.set i x).map UdV.val = (ms.map UdV.val).set i x.val) := fun x => List.map_set
  have hR : ∀ (k : Nat) (hk : k < 4) u, (ms[i].cells)[k]? = some u → w.cell? ⟨g, i * 4 + k, none⟩ = some u := fun k hk u hu => by
    obtain ⟨ad, ha, _, hc⟩ := (Rd.of_own h2).at_ (by omega)
    obtain rfl : ad = ⟨g, 0, none⟩ := by injection ha with ha; exact ha.symm
    have := hc (i * 4 + k) u (by rw [cUd_get hi hk]; exact hu)
    have e : (⟨g, 0, none⟩ : Addr).add (i * 4 + k) = ⟨g, i * 4 + k, none⟩ := by unfold Addr.add; split <;> simp_all
    rwa [e] at this
  have cn : w.cell? ⟨gn, 0, none⟩ = some (.slice (some ⟨g, 0, none⟩) ms.length c) := (h1.cell 0).trans rfl
  have r2 : w.cell? ⟨g, i * 4 + 2, none⟩ = some (.slice (some ⟨gd, 0, none⟩) ms[i].d.length ms[i].cp) := by rw [← hgd]; exact hR 2 (by omega) _ rfl
  have r3 : w.cell? ⟨g, i * 4 + 3, none⟩ = some (.bool false) := by
    have h9 : ms[i].sp = false := hsp
    rw [← h9]; exact hR 3 (by omega) _ rfl
  have hgl : g < w.heap.size := (own_in h2 g (by simp [blk])).2
  have hgdl : gd < w.heap.size := (own_in ho gd (by rw [hgd]; simp [blk])).2
  have hgm : gd ≠ g := fun e => own_ne1 h2 ho (by decide) g rfl (by rw [hgd, ← e]; rfl)
  obtain ⟨rd, had, _, hcd⟩ := (Rd.of_own ho).at_ hd'
  obtain rfl : rd = ⟨gd, 0, none⟩ := by rw [hgd] at had; injection had with had; exact had.symm
  have y0 : w.cell? ⟨gd, j, none⟩ = some (.int .u8 (ms[i].d[j].toNat : Int)) := by
    have := hcd j _ (cB_get hjl)
    have e : (⟨gd, 0, none⟩ : Addr).add j = ⟨gd, j, none⟩ := by unfold Addr.add; split <;> simp_all
    rwa [e] at this
  have fzg : w.frozen? ⟨g, i * 4 + 3, none⟩ = false := own_free h2 _
  have fzd : w.frozen? ⟨gd, j, none⟩ = false := by rw [hgd] at ho; exact own_free ho _
  have KK : Hid (∀ w', Chg [] w w' → w'.cell? ⟨g, i * 4 + 2, none⟩ = some (.slice (some ⟨gd, 0, none⟩) ms[i].d.length ms[i].cp)) := fun w' hc => (hc.cell hgl (by simp)).trans r2
  have HD : Hid (∀ w', Chg [] w w' → w'.cell? ⟨gd, j, none⟩ = some (.int .u8 (ms[i].d[j].toNat : Int)) ∧ w'.frozen? ⟨gd, j, none⟩ = false) := fun w' hc => ⟨(hc.cell hgdl (by simp)).trans y0, by unfold World.frozen?; rw [hc.block gd hgdl (by simp)]; exact fzd⟩
  have KG : Hid (∀ w', Chg [gd] w w' → w'.cell? ⟨g, i * 4 + 2, none⟩ = some (.slice (some ⟨gd, 0, none⟩) ms[i].d.length ms[i].cp) ∧ w'.cell? ⟨g, i * 4 + 3, none⟩ = some (.bool false) ∧ w'.frozen? ⟨g, i * 4 + 3, none⟩ = false) := fun w' hc => ⟨(hc.cell hgl (by simpa using fun e => hgm e.symm)).trans r2, (hc.cell hgl (by simpa using fun e => hgm e.symm)).trans r3, by unfold World.frozen?; rw [hc.block g hgl (by simpa using fun e => hgm e.symm)]; exact fzg⟩
  obtain ⟨q, hq⟩ : ∃ q : Nat, max 0 a = (q : Int) := ⟨(max 0 a).toNat, by omega⟩
  have hqj : ((q : Int) % (ms[i].d.length : Int)) = (j : Int) := by
    have h9 : (max 0 a).toNat % ms[i].d.length = j := hj
    rw [hq, Int.toNat_natCast] at h9
    rw [← h9]; simp
  have hb1 : ((b.toNat : Int) == 0) = false := by
    rw [beq_eq_false_iff_ne]; intro e; exact hb (UInt8.toNat_inj.1 (by simpa using e))
  have hdb : ((ms[i].d.length : Int) == 0) = false := by rw [beq_eq_false_iff_ne]; omega
  have hdb2 : ¬ (ms[i].d.length : Int) = 0 := by omega
  have hdne : ¬ ms[i].d = [] := fun e => by rw [e] at hd'; simp at hd'
  have hqt : (q : Int).tmod (ms[i].d.length : Int) = (j : Int) := by rw [← hqj]; rfl
  have hji : (j : Int) < (ms[i].d.length : Int) := by omega
  have hii2 : (i : Int) < (ms.length : Int) := by omega
  have HX := Lib.hid (xor_u8 ms[i].d[j] b)
  have HMi := Lib.hid (HMap.out ⟨ms[i].f, ms[i].t, ms[i].d.set j (ms[i].d[j] ^^^ b), ms[i].A, ms[i].cp, true⟩)
  simp only [UdV.val] at HMi
  have HMi2 : Hid ((ms.set i ⟨ms[i].f, ms[i].t, ms[i].d.set j (ms[i].d[j] ^^^ b), ms[i].A, ms[i].cp, true⟩).map UdV.val = (ms.map UdV.val).set i (spoilM ms[i].val j b)) := by
    unfold Hid; rw [HEq.out]; exact HMap.out _
  clear HEq HMap HMi hR hcd had ho h1 h2 h3 hsp hmi H fzd fzg hb
  generalize (ms.map UdV.val).set i (spoilM ms[i].val j b) = lz at *
  generalize (ms.set i ⟨ms[i].f, ms[i].t, ms[i].d.set j (ms[i].d[j] ^^^ b), ms[i].A, ms[i].cp, true⟩) = mz at *
  generalize ms[i].d[j] ^^^ b = xb at *
  generalize ms[i].d[j] = y at *
  generalize ms[i].d = d at *
  generalize ms[i].cp = cp at *
  clear hgm hd hd' hj hjl hp hgd
  go_enter Try.func19, Try.ntmps19
  go_wp2_with (fail)
  refine HP.out.mono ?_
  rintro e w1 ⟨rfl, rfl⟩
  go_wp2_with (fail)
  have hcw := (Chg.refl [] w1).drew
  obtain ⟨y1, fz1⟩ := HD.out _ hcw
  have q9 : Chg [gd] w1 ((w1.setCell ⟨gd, j, none⟩ (.int .u8 (xb.toNat : Int))).drew) := ((Chg.refl _ _).setCell (.inl (by simp)) _).drew
  have KK2 := Lib.hid (KG.out _ q9).1
  have gc3 := (KG.out _ q9).2.1
  have gf3 := (KG.out _ q9).2.2
  have HX1 := HX.out
  refine wp_region_held_drew (S := fun w' => w'.cell? ⟨g, i * 4 + 2, none⟩ = some (.slice (some ⟨gd, 0, none⟩) d.length cp)) (by kernel_rfl) ?_ (fun hHeld => ?_)
  · exact KK.out _ (by repeat' (first | (with_reducible assumption) | (with_reducible exact Chg.refl _ _) | (with_reducible refine Chg.alloc ?_ _) | (with_reducible refine Chg.drewN ?_ _) | (with_reducible refine Chg.drew ?_) | (with_reducible refine Chg.strW ?_ _ _) | (with_reducible refine Chg.t0 ?_ (by with_reducible assumption))))
  refine takeW (i := 0) (d := (some 53)) (v := ?_) rfl rfl (by kernel_rfl) (by kernel_rfl) (by kernel_rfl) (fun _ _ _ h => h) (by rfl) ?_ (by assumption) ?_
  rotate_left
  · intro w' hSw; (try dsimp only at hSw); go_simp; try with_reducible rfl
  try simp only [Act.put, List.setIfInBounds_toArray, List.set_cons_zero, List.set_cons_succ]
  refine takeW (i := 1) (d := (some 54)) (v := ?_) rfl rfl (by kernel_rfl) (by kernel_rfl) (by kernel_rfl) (fun _ _ _ h => h) (by rfl) ?_ (by assumption) ?_
  rotate_left
  · intro w' hSw; (try dsimp only at hSw); go_simp; try with_reducible rfl
  try simp only [Act.put, List.setIfInBounds_toArray, List.set_cons_zero, List.set_cons_succ]
  refine takeW (i := 2) (d := (some 55)) (v := ?_) rfl rfl (by kernel_rfl) (by kernel_rfl) (by kernel_rfl) (fun _ _ _ h => h) (by rfl) ?_ (by assumption) ?_
  rotate_left
  · intro w' hSw; (try dsimp only at hSw); go_simp; try with_reducible rfl
  try simp only [Act.put, List.setIfInBounds_toArray, List.set_cons_zero, List.set_cons_succ]
  refine takeW (i := 3) (d := (some 56)) (v := ?_) rfl rfl (by kernel_rfl) (by kernel_rfl) (by kernel_rfl) (fun _ _ _ h => h) (by rfl) ?_ (by assumption) ?_
  rotate_left
  · intro w' hSw; (try dsimp only at hSw); go_simp; try with_reducible rfl
  try simp only [Act.put, List.setIfInBounds_toArray, List.set_cons_zero, List.set_cons_succ]
  refine takeW (i := 4) (d := (some 57)) (v := ?_) rfl rfl (by kernel_rfl) (by kernel_rfl) (by kernel_rfl) (fun _ _ _ h => h) (by rfl) ?_ (by assumption) ?_
  rotate_left
  · intro w' hSw; (try dsimp only at hSw); go_simp; try with_reducible rfl
  try simp only [Act.put, List.setIfInBounds_toArray, List.set_cons_zero, List.set_cons_succ]
  refine takeW (i := 5) (d := (some 58)) (v := ?_) rfl rfl (by kernel_rfl) (by kernel_rfl) (by kernel_rfl) (fun _ _ _ h => h) (by rfl) ?_ (by assumption) ?_
  rotate_left
  · intro w' hSw; (try dsimp only at hSw); go_simp; try with_reducible rfl
  try simp only [Act.put, List.setIfInBounds_toArray, List.set_cons_zero, List.set_cons_succ]
  refine takeW (i := 6) (d := (some 59)) (v := ?_) rfl rfl (by kernel_rfl) (by kernel_rfl) (by kernel_rfl) (fun _ _ _ h => h) (by rfl) ?_ (by assumption) ?_
  rotate_left
  · intro w' hSw; (try dsimp only at hSw); go_simp; try with_reducible rfl
  try simp only [Act.put, List.setIfInBounds_toArray, List.set_cons_zero, List.set_cons_succ]
  refine takeW (i := 7) (d := (some 60)) (v := ?_) rfl rfl (by kernel_rfl) (by kernel_rfl) (by kernel_rfl) (fun _ _ _ h => h) (by rfl) ?_ (by assumption) ?_
  rotate_left
  · intro w' hSw; (try dsimp only at hSw); go_simp; try with_reducible rfl
  try simp only [Act.put, List.setIfInBounds_toArray, List.set_cons_zero, List.set_cons_succ]
  refine takeW (i := 8) (d := (some 61)) (v := ?_) rfl rfl (by kernel_rfl) (by kernel_rfl) (by kernel_rfl) (fun _ _ _ h => h) (by rfl) ?_ (by assumption) ?_
  rotate_left
  · intro w' hSw; (try dsimp only at hSw); go_simp; try with_reducible rfl
  try simp only [Act.put, List.setIfInBounds_toArray, List.set_cons_zero, List.set_cons_succ]
  refine takeW (i := 9) (d := (some 62)) (v := ?_) rfl rfl (by kernel_rfl) (by kernel_rfl) (by kernel_rfl) (fun _ _ _ h => h) (by rfl) ?_ (by assumption) ?_
  rotate_left
  · intro w' hSw; (try dsimp only at hSw); go_simp; try with_reducible rfl
  try simp only [Act.put, List.setIfInBounds_toArray, List.set_cons_zero, List.set_cons_succ]
  refine takeW (i := 10) (d := (some 63)) (v := ?_) rfl rfl (by kernel_rfl) (by kernel_rfl) (by kernel_rfl) (fun _ _ _ h => h) (by rfl) ?_ (by assumption) ?_
  rotate_left
  · intro w' hSw; (try dsimp only at hSw); go_simp; try with_reducible rfl
  try simp only [Act.put, List.setIfInBounds_toArray, List.set_cons_zero, List.set_cons_succ]
  refine takeW (i := 11) (d := (some 64)) (v := ?_) rfl rfl (by kernel_rfl) (by kernel_rfl) (by kernel_rfl) (fun _ _ _ h => h) (by rfl) ?_ (by assumption) ?_
  rotate_left
  · intro w' hSw; (try dsimp only at hSw); go_simp; try with_reducible rfl
  try simp only [Act.put, List.setIfInBounds_toArray, List.set_cons_zero, List.set_cons_succ]
  refine takeW (i := 12) (d := (some 65)) (v := ?_) rfl rfl (by kernel_rfl) (by kernel_rfl) (by kernel_rfl) (fun _ _ _ h => h) (by rfl) ?_ (by assumption) ?_
  rotate_left
  · intro w' hSw; (try dsimp only at hSw); go_simp; try with_reducible rfl
  try simp only [Act.put, List.setIfInBounds_toArray, List.set_cons_zero, List.set_cons_succ]
  refine takeW (i := 13) (d := (some 66)) (v := ?_) rfl rfl (by kernel_rfl) (by kernel_rfl) (by kernel_rfl) (fun _ _ _ h => h) (by rfl) ?_ (by assumption) ?_
  rotate_left
  · intro w' hSw; (try dsimp only at hSw); go_simp; try with_reducible rfl
  try simp only [Act.put, List.setIfInBounds_toArray, List.set_cons_zero, List.set_cons_succ]
  refine takeW (i := 14) (d := (some 67)) (v := ?_) rfl rfl (by kernel_rfl) (by kernel_rfl) (by kernel_rfl) (fun _ _ _ h => h) (by rfl) ?_ (by assumption) ?_
  rotate_left
  · intro w' hSw; (try dsimp only at hSw); go_simp; try with_reducible rfl
  try simp only [Act.put, List.setIfInBounds_toArray, List.set_cons_zero, List.set_cons_succ]
  refine takeW (i := 16) (d := (some 69)) (v := ?_) rfl rfl (by kernel_rfl) (by kernel_rfl) (by kernel_rfl) (fun _ _ _ h => h) (by rfl) ?_ (by assumption) ?_
  rotate_left
  · intro w' hSw; (try dsimp only at hSw); go_simp; try with_reducible rfl
  try simp only [Act.put, List.setIfInBounds_toArray, List.set_cons_zero, List.set_cons_succ]
  refine wpAnyH_ready (rs := [15]) (by kernel_rfl) (by simp) ?_
  refine AllReadyH.cons rfl (fun K hK => ?_) AllReadyH.nil
  go_simp
  go_wp2_with (fail)
  refine hK.out _ _ ?_ (fun hHeld => ?_)
  · first | assumption | exact KK.out _ (by repeat' (first | (with_reducible assumption) | (with_reducible exact Chg.refl _ _) | (with_reducible refine Chg.alloc ?_ _) | (with_reducible refine Chg.drewN ?_ _) | (with_reducible refine Chg.drew ?_) | (with_reducible refine Chg.strW ?_ _ _) | (with_reducible refine Chg.t0 ?_ (by with_reducible assumption))))
  clear hK K
  try simp only [Act.put, List.setIfInBounds_toArray, List.set_cons_zero, List.set_cons_succ]
  refine takeW (i := 17) (d := (some 70)) (v := ?_) rfl rfl (by kernel_rfl) (by kernel_rfl) (by kernel_rfl) (fun _ _ _ h => h) (by rfl) ?_ (by assumption) ?_
  rotate_left
  · intro w' hSw; (try dsimp only at hSw); go_simp; try with_reducible rfl
  try simp only [Act.put, List.setIfInBounds_toArray, List.set_cons_zero, List.set_cons_succ]
  refine takeW (i := 18) (d := (some 71)) (v := ?_) rfl rfl (by kernel_rfl) (by kernel_rfl) (by kernel_rfl) (fun _ _ _ h => h) (by rfl) ?_ (by assumption) ?_
  rotate_left
  · intro w' hSw; (try dsimp only at hSw); go_simp; try with_reducible rfl
  try simp only [Act.put, List.setIfInBounds_toArray, List.set_cons_zero, List.set_cons_succ]
  refine wpAnyH_ready (rs := [19]) (by kernel_rfl) (by simp) ?_
  refine AllReadyH.cons rfl (fun K hK => ?_) AllReadyH.nil
  go_simp
  go_wp2_with (fail)
  refine hK.out _ _ ?_ (fun hHeld => ?_)
  · exact KK2.out
  clear hK K
  try simp only [Act.put, List.setIfInBounds_toArray, List.set_cons_zero, List.set_cons_succ]
  refine wpAnyH_done (by kernel_rfl) ?_ _
  go_wp2_with (fail)
  go_ret
  refine ⟨rfl, ⟨some ⟨g, 0, none⟩, c, mz, HMi2.out, HS.out _ hcw⟩, ?_⟩
  simp [World.setCell]
end
end Go.Proofs.Ytbgdcplbekoemaa
