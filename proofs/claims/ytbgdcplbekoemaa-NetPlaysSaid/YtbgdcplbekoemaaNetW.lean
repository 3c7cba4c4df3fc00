
/-
  net: messages under way in memory; Len, picked, takes.
-/
import Derived.Test.YtbgdcplbekoemaaNetD
namespace Go.Proofs.Ytbgdcplbekoemaa
open Go.RowKit
set_option linter.unusedVariables false
attribute [local go_sem ↓] run_min2 run_max2

/-- A message under way. -/
structure UdV where
  f : Int
  t : Int
  d : List UInt8
  A : Option Addr
  cp : Nat
  sp : Bool
def UdV.cells (x : UdV) : List Value := [.int .i64 x.f, .int .i64 x.t, .slice x.A x.d.length x.cp, .bool x.sp]
def cUd (l : List UdV) : List Value := l.flatMap UdV.cells
theorem cUd_cons (a : UdV) (l : List UdV) : cUd (a :: l) = a.cells ++ cUd l := rfl
theorem cUd_app (a b : List UdV) : cUd (a ++ b) = cUd a ++ cUd b := by simp [cUd, List.flatMap_append]
theorem cUd_len (l : List UdV) : (cUd l).length = l.length * 4 := by
  induction l with
  | nil => rfl
  | cons a l ih => rw [cUd_cons, List.length_append, ih, List.length_cons, Nat.succ_mul, Nat.add_comm]; rfl
theorem cUd_one (l : List UdV) : ∀ u ∈ cUd l, u.oneCell' = true := by
  intro u hu
  obtain ⟨r, _, hr⟩ := List.mem_flatMap.1 hu
  simp only [UdV.cells, List.mem_cons, List.not_mem_nil, or_false] at hr
  rcases hr with rfl | rfl | rfl | rfl <;> rfl
theorem cUd_get : ∀ {l : List UdV} {k : Nat} (hk : k < l.length) {j : Nat} (hj : j < 4), (cUd l)[k * 4 + j]? = (l[k].cells)[j]?
  | a :: l, 0, _, j, hj => by
    rw [cUd_cons, Nat.zero_mul, Nat.zero_add, List.getElem?_append_left (by exact hj)]; rfl
  | a :: l, k + 1, hk, j, hj => by
    rw [cUd_cons, List.getElem?_append_right (by show 4 ≤ _; omega)]
    have e : (k + 1) * 4 + j - a.cells.length = k * 4 + j := by show (k + 1) * 4 + j - 4 = _; omega
    rw [e, cUd_get (by simpa using hk) hj]; rfl
theorem cUd_take : ∀ (l : List UdV) (k : Nat), (cUd l).take (k * 4) = cUd (l.take k)
  | [], k => by simp [cUd]
  | a :: l, 0 => by simp [cUd]
  | a :: l, k + 1 => by
    rw [cUd_cons, List.take_succ_cons, cUd_cons, ← cUd_take l k, List.take_append]
    have e : (k + 1) * 4 - a.cells.length = k * 4 := by show (k + 1) * 4 - 4 = _; omega
    rw [e, List.take_of_length_le (by show 4 ≤ _; omega)]
theorem cUd_drop : ∀ (l : List UdV) (k : Nat), (cUd l).drop (k * 4) = cUd (l.drop k)
  | [], k => by simp [cUd]
  | a :: l, 0 => by simp
  | a :: l, k + 1 => by
    rw [cUd_cons, List.drop_succ_cons, ← cUd_drop l k, List.drop_append]
    have e : (k + 1) * 4 - a.cells.length = k * 4 := by show (k + 1) * 4 - 4 = _; omega
    rw [e, List.drop_of_length_le (by show 4 ≤ _; omega), List.nil_append]
theorem cUd_erase (l : List UdV) (k : Nat) : (cUd l).take (k * 4) ++ (cUd l).drop ((k + 1) * 4) = cUd (l.eraseIdx k) := by
  rw [cUd_take, cUd_drop, ← cUd_app, List.eraseIdx_eq_take_drop_succ]

/-- A Net in memory: made since w0; its messages' bytes are its own. -/
structure NetH (w0 w : World) (gn : Nat) (A : Option Addr) (c : Nat) (ms : List UdV) : Prop where
  at_ : At w gn 56 #[.slice A ms.length c]
  row : w.ownsRow w0.heap.size 59 4 (.slice A ms.length c) ms.length (cUd ms)
  dat : ∀ m ∈ ms, w.ownsRow w0.heap.size 5 1 (.slice m.A m.d.length m.cp) m.d.length (cB m.d)
  new : w0.heap.size ≤ gn
  chg : Chg [] w0 w

theorem len_net (w0 w : World) (gn : Nat) (A : Option Addr) (c : Nat) (ms : List UdV) (h : NetH w0 w gn A c ms) :
    Calls Try.prog 15 #[.pointer (some ⟨gn, 0, none⟩)] w fun e w' => e = .returned (.int .i64 ms.length) ∧ w' = w := by
  have c0 : w.cell? ⟨gn, 0, none⟩ = some (.slice A ms.length c) := (h.at_.cell 0).trans rfl
  go_enter Try.func15, Try.ntmps15
  go_wp2_with (fail)
  go_ret
  exact ⟨rfl, rfl⟩
theorem len_nil (w : World) : Calls Try.prog 15 #[.pointer none] w fun e w' => e = .returned (.int .i64 0) ∧ w' = w := by
  go_enter Try.func15, Try.ntmps15
  go_wp2_with (fail)
  go_ret
  exact ⟨rfl, rfl⟩
theorem picked_no (w0 w : World) (gn : Nat) (A : Option Addr) (c : Nat) (h : NetH w0 w gn A c []) (p : Int) :
    Calls Try.prog 26 #[.pointer (some ⟨gn, 0, none⟩), .int .i64 p] w fun e w' => e = .returned (.tuple #[.int .i64 0, .bool false]) ∧ w' = w := by
  have H := Lib.hid h
  clear h
  go_enter Try.func26, Try.ntmps26
  go_wp2_with (fail)
  refine (len_net w0 w gn A c [] H.out).mono ?_
  rintro e w1 ⟨rfl, rfl⟩
  go_wp2_with (fail)
  go_ret2
  exact ⟨rfl, rfl⟩
theorem picked_nil (w : World) (p : Int) : Calls Try.prog 26 #[.pointer none, .int .i64 p] w fun e w' => e = .returned (.tuple #[.int .i64 0, .bool false]) ∧ w' = w := by
  go_enter Try.func26, Try.ntmps26
  go_wp2_with (fail)
  refine (len_nil w).mono ?_
  rintro e w1 ⟨rfl, rfl⟩
  go_wp2_with (fail)
  go_ret2
  exact ⟨rfl, rfl⟩
/-- Which message is picked. -/
def pickN (p : Int) (n : Nat) : Nat := (max 0 p).toNat % n
set_option maxHeartbeats 1600000 in
theorem picked_yes (w0 w : World) (gn : Nat) (A : Option Addr) (c : Nat) (ms : List UdV) (h : NetH w0 w gn A c ms) (hp : 0 < ms.length) (p : Int) :
    Calls Try.prog 26 #[.pointer (some ⟨gn, 0, none⟩), .int .i64 p] w fun e w' => e = .returned (.tuple #[.int .i64 (pickN p ms.length), .bool true]) ∧ w' = w := by
  have H := Lib.hid h
  have c0 : w.cell? ⟨gn, 0, none⟩ = some (.slice A ms.length c) := (h.at_.cell 0).trans rfl
  have hb : ((ms.length : Int) == 0) = false := by rw [beq_eq_false_iff_ne]; omega
  have hb2 : ¬ (ms.length : Int) = 0 := by omega
  obtain ⟨q, hq⟩ : ∃ q : Nat, max 0 p = (q : Int) := ⟨(max 0 p).toNat, by omega⟩
  have HP : Hid (((q : Int) % (ms.length : Int)) = ((pickN p ms.length : Nat) : Int)) := by
    unfold Hid pickN
    rw [hq]
    simp
  clear h
  go_enter Try.func26, Try.ntmps26
  go_wp2_with (fail)
  refine (len_net w0 w gn A c ms H.out).mono ?_
  rintro e w1 ⟨rfl, rfl⟩
  go_wp2_with (fail)
  go_ret2
  refine ⟨?_, rfl⟩
  rw [← HP.out]
  rfl
theorem pickN_lt {p : Int} {n : Nat} (h : 0 < n) : pickN p n < n := Nat.mod_lt _ h
theorem NetH.keep {w0 w w' : World} {gn : Nat} {A : Option Addr} {c : Nat} {ms : List UdV} (h : NetH w0 w gn A c ms) (hc : Chg [] w w') : NetH w0 w' gn A c ms :=
  ⟨h.at_.keep hc (by simp), own_keep h.row hc (fun _ _ hm => by simp at hm), fun m hm => own_keep (h.dat m hm) hc (fun _ _ hm => by simp at hm), h.new, h.chg.trans hc (by simp)⟩
theorem und_size : (Try.prog.info? 59).map (·.size) = some 4 := by kernel_rfl
theorem ret_und2 {fn : Func} {p q : Tmp} {tmps : Array Value} {w : World} {g : Nat} {T : TypeId} {cs : Array Value} {v : Value} {Post : Ending → World → Prop} (hs : cs.size = 4) (h : fn.results = #[.cell p 59, .tmp q])
    (hp : tmps.getD p undef = .pointer (some ⟨g, 0, none⟩)) (hq : tmps.getD q undef = v) (hg : At w g T cs) (hpost : Post (.returned (.tuple #[.agg cs, v])) w) :
    bodyPost Try.prog fn Post Exit.ret ⟨tmps, []⟩ w := by
  refine bodyPost_ret (v := .tuple #[.agg cs, v]) ?_ rfl hpost
  have hp' : tmps[p]?.getD undef = .pointer (some ⟨g, 0, none⟩) := by simpa using hp
  have hq' : tmps[q]?.getD undef = v := by simpa using hq
  simp [results, h, hp', hq', asAddr, run_loadVar_row w g T 59 _ (0, 0) _ hg Try.underlying59 rfl (und_size.trans (by rw [hs]))]
theorem own_ne2 {w : World} {b b' : Nat} {e e' : TypeId} {s s' n n' c' : Nat} {v : Value} {g : Nat} {xs ys : List Value} (h : w.ownsRow b e s v n xs) (h' : w.ownsRow b' e' s' (.slice (some ⟨g, 0, none⟩) n' c') n' ys) (hne : e ≠ e') (j : Nat) (hj : v.ownBlock = some g) : False := by
  rcases h'.2 with ⟨h1, _⟩ | ⟨g', cap, cur, h1, h2, h3, _⟩
  · cases h1
  · injection h1 with h1
    injection h1 with h1
    injection h1 with h1
    subst h1
    exact own_at_ne h (g := g) (t := e') (cs := cur) h3 hne g hj rfl
/-- A message is taken out. -/
def TakesPost (w0 : World) (gn : Nat) (A : Option Addr) (ms : List UdV) (i : Nat) (mi : UdV) (w : World) (e : Ending) (w' : World) : Prop :=
  e = .returned (.tuple #[.agg mi.cells.toArray, .bool true]) ∧ (∃ c, NetH w0 w' gn A c (ms.eraseIdx i)) ∧ w'.ownsRow w0.heap.size 5 1 (.slice mi.A mi.d.length mi.cp) mi.d.length (cB mi.d) ∧ Chg (gn :: blk A) w w'
set_option maxRecDepth 100000 in
set_option maxHeartbeats 6400000 in
theorem takes_yes (w0 w : World) (gn : Nat) (A : Option Addr) (c : Nat) (ms : List UdV) (h : NetH w0 w gn A c ms) (hl : ms.length ≤ 1024) (hp : 0 < ms.length) (p : Int) (i : Nat) (hpi : pickN p ms.length = i) (mi : UdV) (hmi : ms[i]? = some mi) :
    Calls Try.prog 25 #[.pointer (some ⟨gn, 0, none⟩), .int .i64 p] w (TakesPost w0 gn A ms i mi w) := by
  obtain ⟨g, rfl, hgb, hgl⟩ : ∃ g, A = some ⟨g, 0, none⟩ ∧ w0.heap.size ≤ g ∧ g < w.heap.size := by
    rcases h.row.2 with ⟨_, h1⟩ | ⟨g, cap, cur, h1, h2, h3, _⟩
    · omega
    · injection h1 with h1; exact ⟨g, h1, h2, At.lt (t := 59) h3⟩
  have HNe : Hid (gn ≠ g) := fun he => own_at_ne h.row h.at_ (by decide) g rfl he.symm
  have HG : ∀ w', NetH w0 w' gn (some ⟨g, 0, none⟩) c ms → w'.cell? ⟨gn, 0, none⟩ = some (.slice (some ⟨g, 0, none⟩) ms.length c) := fun w' h => (h.at_.cell 0).trans rfl
  have HR : ∀ w', NetH w0 w' gn (some ⟨g, 0, none⟩) c ms → ∀ (i : Nat) (hi : i < ms.length) (j : Nat) (hj : j < 4) u, (ms[i].cells)[j]? = some u → w'.cell? ⟨g, i * 4 + j, none⟩ = some u := fun w' h i hi j hj u hu => by
    obtain ⟨ad, ha, _, hc⟩ := (Rd.of_own h.row).at_ (by omega)
    obtain rfl : ad = ⟨g, 0, none⟩ := by injection ha with ha; exact ha.symm
    have := hc (i * 4 + j) u (by rw [cUd_get hi hj]; exact hu)
    have e : (⟨g, 0, none⟩ : Addr).add (i * 4 + j) = ⟨g, i * 4 + j, none⟩ := by unfold Addr.add; split <;> simp_all
    rwa [e] at this
  have hi : i < ms.length := by rw [← hpi]; exact pickN_lt hp
  obtain rfl : ms[i] = mi := by rw [List.getElem?_eq_getElem hi] at hmi; exact Option.some.inj hmi
  clear hmi
  have HPK := Lib.hid (fun w' h => picked_yes w0 w' gn (some ⟨g, 0, none⟩) c ms h hp p)
  rw [hpi] at HPK
  clear hpi
  have HM := Lib.hid (h.dat ms[i] (List.getElem_mem hi))
  have HH := Lib.hid h
  have HGh := Lib.hid HG
  have HRh := Lib.hid HR
  have z0 := At.new w 59 #[.int .i64 0, .int .i64 0, .slice none 0 0, .bool false]
  have q0 := (Chg.refl [] w).alloc (.cells #[.int .i64 0, .int .i64 0, .slice none 0 0, .bool false] 59)
  clear h HG HR
  go_enter Try.func25, Try.ntmps25
  go_wp2_with (fail)
  refine (HPK.out _ (HH.out.keep q0)).mono ?_
  rintro e w1 ⟨rfl, hw1⟩
  have H1 : Hid (NetH w0 w1 gn (some ⟨g, 0, none⟩) c ms) := by unfold Hid; rw [hw1]; exact HH.out.keep q0
  have z1 : At w1 w.heap.size 59 #[.int .i64 0, .int .i64 0, .slice none 0 0, .bool false] := by rw [hw1]; exact z0
  have hc1 : Hid (Chg [] w w1) := by unfold Hid; rw [hw1]; exact q0
  clear hw1 z0 q0
  have cn := HGh.out w1 H1.out
  have r0 := HRh.out w1 H1.out i hi 0 (by omega) _ rfl
  have r1 := HRh.out w1 H1.out i hi 1 (by omega) _ rfl
  have r2 := HRh.out w1 H1.out i hi 2 (by omega) _ rfl
  have r3 := HRh.out w1 H1.out i hi 3 (by omega) _ rfl
  rw [Nat.add_zero] at r0
  have hii : (i : Int) < (ms.length : Int) := by omega
  generalize hmi : ms[i] = mi at *
  obtain ⟨mf, mt, md, mA, mc, msp⟩ := mi
  simp only at r0 r1 r2 r3 HM
  have q2 := (Chg.refl [] w1).alloc (.cells #[.int .i64 mf, .int .i64 mt, .slice mA md.length mc, .bool msp] 59)
  have H2 := Lib.hid (H1.out.keep q2)
  have cnA := HGh.out _ H2.out
  have b2 := At.new w1 59 #[.int .i64 mf, .int .i64 mt, .slice mA md.length mc, .bool msp]
  have z2 := z1.keep q2 (by simp)
  have hw1s : w.heap.size ≤ w1.heap.size := hc1.out.size
  have hz1l := z1.lt
  have M2 : Hid ((w1.alloc (.cells #[.int .i64 mf, .int .i64 mt, .slice mA md.length mc, .bool msp] 59)).ownsRow w0.heap.size 5 1 (.slice mA md.length mc) md.length (cB md)) := own_keep (own_keep HM.out hc1.out (fun _ _ hm => by simp at hm)) q2 (fun _ _ hm => by simp at hm)
  clear z1
  go_wp2_with (fail)
  have hn1 : ¬ ms.length = 0 := by omega
  refine (delete_own _ w0.heap.size g ms.length c i (cUd ms) H2.out.row (by omega) hi (cUd_one ms)).mono ?_
  rintro e w3 ⟨rfl, hrow3, hch3⟩
  rw [cUd_erase] at hrow3
  have hgn3 := H2.out.at_.keep hch3 (by simp; exact HNe.out)
  have z3 := z2.keep hch3 (by simp; omega)
  have b3 := b2.keep hch3 (by simp; omega)
  have M3 : Hid (w3.ownsRow w0.heap.size 5 1 (.slice mA md.length mc) md.length (cB md)) := own_keep M2.out hch3 (fun j hj hm => by
    simp at hm
    subst hm
    exact own_ne2 M2.out H2.out.row (by decide) 0 hj)
  have D3 : Hid (∀ m ∈ ms, w3.ownsRow w0.heap.size 5 1 (.slice m.A m.d.length m.cp) m.d.length (cB m.d)) := fun m hm => own_keep (H2.out.dat m hm) hch3 (fun j hj hm2 => by
    simp at hm2
    subst hm2
    exact own_ne2 (H2.out.dat m hm) H2.out.row (by decide) 0 hj)
  have cg := hgn3.cell 0
  have fg := hgn3.free 0
  have x0 := b3.cell 0
  have x1 := b3.cell 1
  have x2 := b3.cell 2
  have x3 := b3.cell 3
  have u0 := z3.cell 0
  have u1 := z3.cell 1
  have u2 := z3.cell 2
  have u3 := z3.cell 3
  have fu0 := z3.free 0
  have fu1 := z3.free 1
  have fu2 := z3.free 2
  have fu3 := z3.free 3
  simp only [List.getElem?_toArray, List.getElem?_cons_zero, List.getElem?_cons_succ] at cg x0 x1 x2 x3 u0 u1 u2 u3
  have hgnw : gn < w.heap.size := HH.out.at_.lt
  have hne1 : gn ≠ w1.heap.size := by omega
  have hne2 : gn ≠ w.heap.size := by omega
  have hne3 : ¬ gn = w1.heap.size := hne1
  have hne4 : ¬ w1.heap.size = w.heap.size := by omega
  have hs3 := hch3.size
  simp at hs3
  have hc3 : Hid (Chg [g] w w3) := ((hc1.out.trans q2 (by simp)).mono (by simp)).trans hch3 (by simp)
  have HROW := Lib.hid hrow3
  have HGN := Lib.hid hgn3
  clear hch3 hrow3 hgn3 cn cnA r0 r1 r2 r3 b2 z2 q2
  go_wp2_with (fail)
  have q4 : Chg [gn] w3 (w3.setCell ⟨gn, 0, none⟩ (.slice (some ⟨g, 0, none⟩) (ms.length - 1) c)) := (Chg.refl _ _).setCell (.inl (by simp)) _
  have q5 : Chg [w.heap.size] (w3.setCell ⟨gn, 0, none⟩ (.slice (some ⟨g, 0, none⟩) (ms.length - 1) c)) (((((w3.setCell ⟨gn, 0, none⟩ (.slice (some ⟨g, 0, none⟩) (ms.length - 1) c)).setCell ⟨w.heap.size, 0, none⟩ (.int .i64 mf)).setCell ⟨w.heap.size, 1, none⟩ (.int .i64 mt)).setCell ⟨w.heap.size, 2, none⟩ (.slice mA md.length mc)).setCell ⟨w.heap.size, 3, none⟩ (.bool msp)) := ((((Chg.refl _ _).setCell (.inl (by simp)) _).setCell (.inl (by simp)) _).setCell (.inl (by simp)) _).setCell (.inl (by simp)) _
  have q45 : Chg [gn, w.heap.size] w3 (((((w3.setCell ⟨gn, 0, none⟩ (.slice (some ⟨g, 0, none⟩) (ms.length - 1) c)).setCell ⟨w.heap.size, 0, none⟩ (.int .i64 mf)).setCell ⟨w.heap.size, 1, none⟩ (.int .i64 mt)).setCell ⟨w.heap.size, 2, none⟩ (.slice mA md.length mc)).setCell ⟨w.heap.size, 3, none⟩ (.bool msp)) := (q4.mono (by simp)).trans q5 (by simp)
  have z5 : At (((((w3.setCell ⟨gn, 0, none⟩ (.slice (some ⟨g, 0, none⟩) (ms.length - 1) c)).setCell ⟨w.heap.size, 0, none⟩ (.int .i64 mf)).setCell ⟨w.heap.size, 1, none⟩ (.int .i64 mt)).setCell ⟨w.heap.size, 2, none⟩ (.slice mA md.length mc)).setCell ⟨w.heap.size, 3, none⟩ (.bool msp)) w.heap.size 59 #[.int .i64 mf, .int .i64 mt, .slice mA md.length mc, .bool msp] := by
    have h := (((((z3.keep q4 (by simp; omega)).set_ 0 (.int .i64 mf)).set_ 1 (.int .i64 mt)).set_ 2 (.slice mA md.length mc)).set_ 3 (.bool msp))
    simpa using h
  have hel : (ms.eraseIdx i).length = ms.length - 1 := List.length_eraseIdx_of_lt hi
  have hmn : ∀ {b n : Nat} {v : Value} {xs : List Value} {e : TypeId} {s : Nat}, w3.ownsRow b e s v n xs → e ≠ 56 → (∀ j, v.ownBlock = some j → j ≠ w.heap.size) → (((((w3.setCell ⟨gn, 0, none⟩ (.slice (some ⟨g, 0, none⟩) (ms.length - 1) c)).setCell ⟨w.heap.size, 0, none⟩ (.int .i64 mf)).setCell ⟨w.heap.size, 1, none⟩ (.int .i64 mt)).setCell ⟨w.heap.size, 2, none⟩ (.slice mA md.length mc)).setCell ⟨w.heap.size, 3, none⟩ (.bool msp)).ownsRow b e s v n xs := fun h hne hz => own_keep h q45 (fun j hj hm => by
    simp at hm
    rcases hm with rfl | rfl
    · exact own_at_ne h HGN.out hne _ hj rfl
    · exact hz _ hj rfl)
  have hzb : ∀ {b n : Nat} {v : Value} {xs : List Value} {e : TypeId} {s : Nat}, w.ownsRow b e s v n xs → ∀ j, v.ownBlock = some j → j ≠ w.heap.size := fun h j hj => by
    have := (h.lt j hj).2
    omega
  have hrw : w.ownsRow w0.heap.size 59 4 (.slice (some ⟨g, 0, none⟩) ms.length c) ms.length (cUd ms) := HH.out.row
  refine ret_und2 (g := w.heap.size) (T := 59) (cs := #[.int .i64 mf, .int .i64 mt, .slice mA md.length mc, .bool msp]) rfl Try.results25 rfl rfl z5 ?_
  rw [hmi]
  refine ⟨rfl, ⟨c, ?_, ?_, fun m hm => ?_, HH.out.new, ?_⟩, hmn M3.out (by decide) (hzb HM.out), ?_⟩
  · have h := (HGN.out.set_ 0 (.slice (some ⟨g, 0, none⟩) (ms.length - 1) c)).keep q5 (by simp; omega)
    rw [hel]
    simpa using h
  · rw [hel]
    exact hmn HROW.out (by decide) (fun j hj => by simp [Value.ownBlock] at hj; omega)
  · have hm2 : m ∈ ms := List.mem_of_mem_eraseIdx hm
    exact hmn (D3.out m hm2) (by decide) (hzb (HH.out.dat m hm2))
  · exact (HH.out.chg.trans hc3.out (by simp; omega)).trans q45 (by have := HH.out.chg.size; have := HH.out.new; simp; omega)
  · exact (hc3.out.mono (by simp [blk])).trans q45 (by simp)
end Go.Proofs.Ytbgdcplbekoemaa
