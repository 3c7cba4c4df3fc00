
/-
  net: the reference: Spoil.
-/
import Derived.Test.YtbgdcplbekoemaaRefND
import Derived.Test.YtbgdcplbekoemaaNetSp
namespace Go.Proofs.Ytbgdcplbekoemaa
open Go.RowKit
set_option linter.unusedVariables false
set_option linter.unusedSimpArgs false
attribute [local go_sem ↓] run_min2 run_max2
theorem cUd_setJ : ∀ {ms : List UdV} {i j : Nat} {x : UdV} {u : Value} (hi : i < ms.length) (hj : j < 4) (hx : x.cells = (ms[i].cells).set j u), cUd (ms.set i x) = (cUd ms).set (i * 4 + j) u
  | a :: l, 0, j, x, u, _, hj, hx => by
    rw [Nat.zero_mul, Nat.zero_add]
    show x.cells ++ cUd l = (a.cells ++ cUd l).set j u
    rw [List.set_append_left _ _ (by exact hj), hx]; rfl
  | a :: l, i + 1, j, x, u, hi, hj, hx => by
    show a.cells ++ cUd (l.set i x) = (a.cells ++ cUd l).set ((i + 1) * 4 + j) u
    rw [List.set_append_right _ _ (by show 4 ≤ _; omega), cUd_setJ (ms := l) (i := i) (by simpa using hi) hj hx]
    have e : (i + 1) * 4 + j - a.cells.length = i * 4 + j := by show (i + 1) * 4 + j - 4 = _; omega
    rw [e]
theorem cUd_same {ms : List UdV} {i : Nat} {m x : UdV} (hm : ms[i]? = some m) (hx : x.cells = m.cells) : cUd (ms.set i x) = cUd ms := by
  obtain ⟨hi, rfl⟩ := List.getElem?_eq_some_iff.1 hm
  have h : (ms.set i x).map UdV.cells = ms.map UdV.cells := by
    apply List.ext_getElem
    · simp
    · intro k h1 h2
      simp only [List.getElem_map, List.getElem_set]
      split
      · rename_i e; subst e; exact hx
      · rfl
  have e : ∀ l : List UdV, cUd l = (l.map UdV.cells).flatten := fun l => rfl
  rw [e, e, h]
theorem mem_set {α : Type} {l : List α} {i : Nat} {x m : α} (hm : m ∈ l.set i x) : m = x ∨ ∃ k, k ≠ i ∧ l[k]? = some m := by
  obtain ⟨k, hk, e⟩ := List.getElem_of_mem hm
  by_cases h : k = i
  · subst h
    rw [List.getElem_set_self] at e
    exact .inl e.symm
  · rw [List.getElem_set_ne (fun h2 => h h2.symm)] at e
    exact .inr ⟨k, h, by rw [← e]; exact List.getElem?_eq_getElem _⟩
section
variable {w0 w w' : World} {gx g gd : Nat} {A : Option Addr} {c : Nat} {ms : List UdV} {l : List MV} {rs : List Res}
theorem RefH.setC (h : RefH w0 w gx (some ⟨g, 0, none⟩) c ms) {i : Nat} {m x : UdV} (hm : ms[i]? = some m) {j : Nat} (hj : j < 4) {u : Value} (hx : x.cells = m.cells.set j u) (hd : w.ownsRow w0.heap.size 5 1 (.slice x.A x.d.length x.cp) x.d.length (cB x.d)) :
    RefH w0 (w.setCell ⟨g, i * 4 + j, none⟩ u) gx (some ⟨g, 0, none⟩) c (ms.set i x) := by
  obtain ⟨hi, rfl⟩ := List.getElem?_eq_some_iff.1 hm
  have hc : Chg [g] w (w.setCell ⟨g, i * 4 + j, none⟩ u) := (Chg.refl _ _).setCell (.inl (by simp)) _
  have hne : gx ≠ g := fun e => own_at_ne h.row h.at_ (by decide) g rfl e.symm
  have hk : ∀ {v : Value} {k : Nat} {xs : List Value}, w.ownsRow w0.heap.size 5 1 v k xs → (w.setCell ⟨g, i * 4 + j, none⟩ u).ownsRow w0.heap.size 5 1 v k xs := fun ho => own_keep ho hc (fun b hb hm2 => own_ne1 ho h.row (by decide) b hb (by simp at hm2; subst hm2; rfl))
  refine ⟨?_, ?_, fun m' hm' => ?_, h.new, h.chg.trans hc (fun b hb => .inr (by simp at hb; subst hb; exact (own_in h.row _ (by simp [blk])).1))⟩
  · rw [List.length_set]; exact h.at_.keep hc (by simpa using hne)
  · rw [List.length_set, cUd_setJ hi hj hx]; exact own_setN h.row _ _
  · rcases mem_set hm' with rfl | ⟨k, _, hk2⟩
    · exact hk hd
    · exact hk (h.dat m' (List.mem_of_getElem? hk2))
theorem RefH.byte (h : RefH w0 w gx A c ms) {i : Nat} {m : UdV} (hm : ms[i]? = some m) (hA : m.A = some ⟨gd, 0, none⟩) (hfr : ∀ (k : Nat) (m' : UdV), ms[k]? = some m' → k ≠ i → gd ∉ blk m'.A) (j : Nat) (x : UInt8) :
    RefH w0 (w.setCell ⟨gd, j, none⟩ (.int .u8 (x.toNat : Int))) gx A c (ms.set i ⟨m.f, m.t, m.d.set j x, m.A, m.cp, m.sp⟩) := by
  have hc : Chg [gd] w (w.setCell ⟨gd, j, none⟩ (.int .u8 (x.toNat : Int))) := (Chg.refl _ _).setCell (.inl (by simp)) _
  have ho := h.dat m (List.mem_of_getElem? hm)
  have hgb : (Value.slice m.A m.d.length m.cp).ownBlock = some gd := by rw [hA]; rfl
  refine ⟨?_, ?_, fun m' hm' => ?_, h.new, h.chg.trans hc (fun b hb => .inr (by simp at hb; subst hb; exact (ho.lt _ hgb).1))⟩
  · rw [List.length_set]; exact h.at_.keep hc (by simp; exact fun e => own_at_ne ho h.at_ (by decide) gd hgb e.symm)
  · rw [List.length_set, cUd_same hm (by simp [UdV.cells])]
    exact own_keep h.row hc (fun b hb hm2 => by simp at hm2; subst hm2; exact own_ne1 h.row ho (by decide) _ hb hgb)
  · rcases mem_set hm' with rfl | ⟨k, hk, hk2⟩
    · simp only [List.length_set]
      rw [cB_setN, hA]
      rw [hA] at ho
      exact own_setN ho _ _
    · exact own_keep (h.dat m' (List.mem_of_getElem? hk2)) hc (fun b hb hm2 => hfr k m' hk2 hk (by simp at hm2; subst hm2; exact bo _ _ _ _ hb))
theorem rspoil_none (h : RefA w0 w gx [] rs) (p a b : Int) :
    Calls Try.prog 33 #[.pointer (some ⟨gx, 0, none⟩), .int .i64 p, .int .i64 a, .int .u8 b] w fun e w' => e = .returned (.bool false) ∧ w' = w := by
  obtain ⟨A, c, ms, hm, H⟩ := h
  obtain rfl : ms = [] := by simpa using hm
  have c0 : w.cell? ⟨gx, 0, none⟩ = some (.slice A 0 c) := (RefH.of_all H).at_.cell 0
  clear H hm
  go_enter Try.func33, Try.ntmps33
  go_wp2_with (fail)
  go_ret
  exact ⟨rfl, rfl⟩
set_option maxRecDepth 100000 in
set_option maxHeartbeats 3200000 in
theorem rspoil_noH (h : RefH w0 w gx A c ms) (hp : 0 < ms.length) (p a : Int) (b : UInt8) (i : Nat) (hpi : pickN p ms.length = i) (m : UdV) (hm : ms[i]? = some m) (hno : b = 0 ∨ m.d.length = 0 ∨ m.sp = true) :
    Calls Try.prog 33 #[.pointer (some ⟨gx, 0, none⟩), .int .i64 p, .int .i64 a, .int .u8 (b.toNat : Int)] w fun e w' => e = .returned (.bool false) ∧ Chg [] w w' := by
  have hi : i < ms.length := by rw [← hpi]; exact pickN_lt hp
  obtain ⟨q, hq, hmod⟩ := pick_mod p hp
  rw [hpi] at hmod
  obtain ⟨g, rfl, hg, hgx, r0, r1, r2, r3⟩ := h.pick2 hm
  have HH := Lib.hid h
  have c0 : w.cell? ⟨gx, 0, none⟩ = some (.slice (some ⟨g, 0, none⟩) ms.length c) := h.at_.cell 0
  have hb : ((ms.length : Int) == 0) = false := by rw [beq_eq_false_iff_ne]; omega
  have hb2 : ¬ (ms.length : Int) = 0 := by omega
  have hii : (i : Int) < (ms.length : Int) := by omega
  have hne : ¬ ms = [] := fun e => by rw [e] at hp; simp at hp
  have hmod2 : Int.tmod (q : Int) (ms.length : Int) = (i : Int) := by rw [← hmod]; rfl
  obtain ⟨mf, mt, md, mA, mc, msp⟩ := m
  simp only at r0 r1 r2 r3 hno
  by_cases hb0 : b = 0
  · have hbb : ((b.toNat : Int) == 0) = true := by rw [hb0]; rfl
    clear hm h hi hpi hno hb0
    go_enter Try.func33, Try.ntmps33
    go_wp2_with (fail)
    go_ret
    exact ⟨rfl, Chg.refl _ _⟩
  have hbb : ((b.toNat : Int) == 0) = false := by
    rw [beq_eq_false_iff_ne]; intro e; exact hb0 (UInt8.toNat_inj.1 (by simpa using e))
  have r2' := (((Chg.refl [] w).drew).cell (p := ⟨g, i * 4 + 2, none⟩) hg (by simp)).trans r2
  have r3' := (((Chg.refl [] w).drew).cell (p := ⟨g, i * 4 + 3, none⟩) hg (by simp)).trans r3
  by_cases hs : msp = true
  · subst hs
    clear hm h hi hpi hno hb0
    go_enter Try.func33, Try.ntmps33
    go_upto_region 3 with (fail)
    refine wp_regionE 13 (fun w' => w'.cell? ⟨gx, 0, none⟩ = some (.slice (some ⟨g, 0, none⟩) ms.length c)) (by kernel_rfl) ?_ (fun hHeld => ?_)
    · exact (HH.out.keep ((Chg.refl [] w).drew)).at_.cell 0
    refine takeWE (i := 0) (d := (some 20)) (v := ?_) rfl rfl (by kernel_rfl) (by kernel_rfl) (by kernel_rfl) (by kernel_rfl) (by kernel_rfl) (fun _ _ _ h => h) (by rfl) ?_ (by assumption) ?_
    rotate_left
    · intro w' hSw; (try dsimp only at hSw); go_simp; try with_reducible rfl
    try simp only [Act.put, List.setIfInBounds_toArray, List.set_cons_zero, List.set_cons_succ]
    refine takeWE (i := 1) (d := (some 21)) (v := ?_) rfl rfl (by kernel_rfl) (by kernel_rfl) (by kernel_rfl) (by kernel_rfl) (by kernel_rfl) (fun _ _ _ h => h) (by rfl) ?_ (by assumption) ?_
    rotate_left
    · intro w' hSw; (try dsimp only at hSw); go_simp; try with_reducible rfl
    try simp only [Act.put, List.setIfInBounds_toArray, List.set_cons_zero, List.set_cons_succ]
    refine takeWE (i := 2) (d := (some 22)) (v := ?_) rfl rfl (by kernel_rfl) (by kernel_rfl) (by kernel_rfl) (by kernel_rfl) (by kernel_rfl) (fun _ _ _ h => h) (by rfl) ?_ (by assumption) ?_
    rotate_left
    · intro w' hSw; (try dsimp only at hSw); go_simp; try with_reducible rfl
    try simp only [Act.put, List.setIfInBounds_toArray, List.set_cons_zero, List.set_cons_succ]
    refine takeWE (i := 3) (d := (some 23)) (v := ?_) rfl rfl (by kernel_rfl) (by kernel_rfl) (by kernel_rfl) (by kernel_rfl) (by kernel_rfl) (fun _ _ _ h => h) (by rfl) ?_ (by assumption) ?_
    rotate_left
    · intro w' hSw; (try dsimp only at hSw); go_simp; try with_reducible rfl
    try simp only [Act.put, List.setIfInBounds_toArray, List.set_cons_zero, List.set_cons_succ]
    refine takeWE (i := 4) (d := (some 24)) (v := ?_) rfl rfl (by kernel_rfl) (by kernel_rfl) (by kernel_rfl) (by kernel_rfl) (by kernel_rfl) (fun _ _ _ h => h) (by rfl) ?_ (by assumption) ?_
    rotate_left
    · intro w' hSw; (try dsimp only at hSw); go_simp; try with_reducible rfl
    try simp only [Act.put, List.setIfInBounds_toArray, List.set_cons_zero, List.set_cons_succ]
    refine takeWE (i := 5) (d := (some 25)) (v := ?_) rfl rfl (by kernel_rfl) (by kernel_rfl) (by kernel_rfl) (by kernel_rfl) (by kernel_rfl) (fun _ _ _ h => h) (by rfl) ?_ (by assumption) ?_
    rotate_left
    · intro w' hSw; (try dsimp only at hSw); go_simp; try with_reducible rfl
    try simp only [Act.put, List.setIfInBounds_toArray, List.set_cons_zero, List.set_cons_succ]
    refine takeWE (i := 6) (d := (some 26)) (v := ?_) rfl rfl (by kernel_rfl) (by kernel_rfl) (by kernel_rfl) (by kernel_rfl) (by kernel_rfl) (fun _ _ _ h => h) (by rfl) ?_ (by assumption) ?_
    rotate_left
    · intro w' hSw; (try dsimp only at hSw); go_simp; try with_reducible rfl
    try simp only [Act.put, List.setIfInBounds_toArray, List.set_cons_zero, List.set_cons_succ]
    refine takeWE (i := 7) (d := (some 27)) (v := ?_) rfl rfl (by kernel_rfl) (by kernel_rfl) (by kernel_rfl) (by kernel_rfl) (by kernel_rfl) (fun _ _ _ h => h) (by rfl) ?_ (by assumption) ?_
    rotate_left
    · intro w' hSw; (try dsimp only at hSw); go_simp; try with_reducible rfl
    try simp only [Act.put, List.setIfInBounds_toArray, List.set_cons_zero, List.set_cons_succ]
    refine takeWE (i := 8) (d := (some 28)) (v := ?_) rfl rfl (by kernel_rfl) (by kernel_rfl) (by kernel_rfl) (by kernel_rfl) (by kernel_rfl) (fun _ _ _ h => h) (by rfl) ?_ (by assumption) ?_
    rotate_left
    · intro w' hSw; (try dsimp only at hSw); go_simp; try with_reducible rfl
    try simp only [Act.put, List.setIfInBounds_toArray, List.set_cons_zero, List.set_cons_succ]
    refine takeWE (i := 9) (d := (some 29)) (v := ?_) rfl rfl (by kernel_rfl) (by kernel_rfl) (by kernel_rfl) (by kernel_rfl) (by kernel_rfl) (fun _ _ _ h => h) (by rfl) ?_ (by assumption) ?_
    rotate_left
    · intro w' hSw; (try dsimp only at hSw); go_simp; try with_reducible rfl
    try simp only [Act.put, List.setIfInBounds_toArray, List.set_cons_zero, List.set_cons_succ]
    refine takeWE (i := 10) (d := (some 30)) (v := ?_) rfl rfl (by kernel_rfl) (by kernel_rfl) (by kernel_rfl) (by kernel_rfl) (by kernel_rfl) (fun _ _ _ h => h) (by rfl) ?_ (by assumption) ?_
    rotate_left
    · intro w' hSw; (try dsimp only at hSw); go_simp; try with_reducible rfl
    try simp only [Act.put, List.setIfInBounds_toArray, List.set_cons_zero, List.set_cons_succ]
    refine takeWE (i := 11) (d := (some 31)) (v := ?_) rfl rfl (by kernel_rfl) (by kernel_rfl) (by kernel_rfl) (by kernel_rfl) (by kernel_rfl) (fun _ _ _ h => h) (by rfl) ?_ (by assumption) ?_
    rotate_left
    · intro w' hSw; (try dsimp only at hSw); go_simp; try with_reducible rfl
    try simp only [Act.put, List.setIfInBounds_toArray, List.set_cons_zero, List.set_cons_succ]
    refine takeWE (i := 12) (d := (some 32)) (v := ?_) rfl rfl (by kernel_rfl) (by kernel_rfl) (by kernel_rfl) (by kernel_rfl) (by kernel_rfl) (fun _ _ _ h => h) (by rfl) ?_ (by assumption) ?_
    rotate_left
    · intro w' hSw; (try dsimp only at hSw); go_simp; try with_reducible rfl
    try simp only [Act.put, List.setIfInBounds_toArray, List.set_cons_zero, List.set_cons_succ]
    refine wpE_ready (rs := [13]) (by kernel_rfl) (by simp) ?_
    refine AllE.last rfl (by kernel_rfl) (fun K hK => ?_)
    go_simp
    go_wp2_with (fail)
    refine hK.out _ _ ?_
    clear hK K hHeld
    go_wp2_with (fail)
    go_ret
    exact ⟨rfl, (Chg.refl [] w).drew⟩
  have hs2 : msp = false := by simpa using hs
  subst hs2
  have hdl : md.length = 0 := by
    rcases hno with h1 | h1 | h1
    · exact absurd h1 hb0
    · exact h1
    · exact absurd h1 (by simp)
  have hdl2 : md = [] := List.eq_nil_of_length_eq_zero hdl
  subst hdl2
  clear hm h hi hpi hno hb0 hdl hs
  go_enter Try.func33, Try.ntmps33
  go_upto_region 3 with (fail)
  refine wp_regionE 13 (fun w' => w'.cell? ⟨gx, 0, none⟩ = some (.slice (some ⟨g, 0, none⟩) ms.length c)) (by kernel_rfl) ?_ (fun hHeld => ?_)
  · exact (HH.out.keep ((Chg.refl [] w).drew)).at_.cell 0
  refine takeWE (i := 0) (d := (some 20)) (v := ?_) rfl rfl (by kernel_rfl) (by kernel_rfl) (by kernel_rfl) (by kernel_rfl) (by kernel_rfl) (fun _ _ _ h => h) (by rfl) ?_ (by assumption) ?_
  rotate_left
  · intro w' hSw; (try dsimp only at hSw); go_simp; try with_reducible rfl
  try simp only [Act.put, List.setIfInBounds_toArray, List.set_cons_zero, List.set_cons_succ]
  refine takeWE (i := 1) (d := (some 21)) (v := ?_) rfl rfl (by kernel_rfl) (by kernel_rfl) (by kernel_rfl) (by kernel_rfl) (by kernel_rfl) (fun _ _ _ h => h) (by rfl) ?_ (by assumption) ?_
  rotate_left
  · intro w' hSw; (try dsimp only at hSw); go_simp; try with_reducible rfl
  try simp only [Act.put, List.setIfInBounds_toArray, List.set_cons_zero, List.set_cons_succ]
  refine takeWE (i := 2) (d := (some 22)) (v := ?_) rfl rfl (by kernel_rfl) (by kernel_rfl) (by kernel_rfl) (by kernel_rfl) (by kernel_rfl) (fun _ _ _ h => h) (by rfl) ?_ (by assumption) ?_
  rotate_left
  · intro w' hSw; (try dsimp only at hSw); go_simp; try with_reducible rfl
  try simp only [Act.put, List.setIfInBounds_toArray, List.set_cons_zero, List.set_cons_succ]
  refine takeWE (i := 3) (d := (some 23)) (v := ?_) rfl rfl (by kernel_rfl) (by kernel_rfl) (by kernel_rfl) (by kernel_rfl) (by kernel_rfl) (fun _ _ _ h => h) (by rfl) ?_ (by assumption) ?_
  rotate_left
  · intro w' hSw; (try dsimp only at hSw); go_simp; try with_reducible rfl
  try simp only [Act.put, List.setIfInBounds_toArray, List.set_cons_zero, List.set_cons_succ]
  refine takeWE (i := 4) (d := (some 24)) (v := ?_) rfl rfl (by kernel_rfl) (by kernel_rfl) (by kernel_rfl) (by kernel_rfl) (by kernel_rfl) (fun _ _ _ h => h) (by rfl) ?_ (by assumption) ?_
  rotate_left
  · intro w' hSw; (try dsimp only at hSw); go_simp; try with_reducible rfl
  try simp only [Act.put, List.setIfInBounds_toArray, List.set_cons_zero, List.set_cons_succ]
  refine takeWE (i := 5) (d := (some 25)) (v := ?_) rfl rfl (by kernel_rfl) (by kernel_rfl) (by kernel_rfl) (by kernel_rfl) (by kernel_rfl) (fun _ _ _ h => h) (by rfl) ?_ (by assumption) ?_
  rotate_left
  · intro w' hSw; (try dsimp only at hSw); go_simp; try with_reducible rfl
  try simp only [Act.put, List.setIfInBounds_toArray, List.set_cons_zero, List.set_cons_succ]
  refine takeWE (i := 6) (d := (some 26)) (v := ?_) rfl rfl (by kernel_rfl) (by kernel_rfl) (by kernel_rfl) (by kernel_rfl) (by kernel_rfl) (fun _ _ _ h => h) (by rfl) ?_ (by assumption) ?_
  rotate_left
  · intro w' hSw; (try dsimp only at hSw); go_simp; try with_reducible rfl
  try simp only [Act.put, List.setIfInBounds_toArray, List.set_cons_zero, List.set_cons_succ]
  refine takeWE (i := 7) (d := (some 27)) (v := ?_) rfl rfl (by kernel_rfl) (by kernel_rfl) (by kernel_rfl) (by kernel_rfl) (by kernel_rfl) (fun _ _ _ h => h) (by rfl) ?_ (by assumption) ?_
  rotate_left
  · intro w' hSw; (try dsimp only at hSw); go_simp; try with_reducible rfl
  try simp only [Act.put, List.setIfInBounds_toArray, List.set_cons_zero, List.set_cons_succ]
  refine takeWE (i := 8) (d := (some 28)) (v := ?_) rfl rfl (by kernel_rfl) (by kernel_rfl) (by kernel_rfl) (by kernel_rfl) (by kernel_rfl) (fun _ _ _ h => h) (by rfl) ?_ (by assumption) ?_
  rotate_left
  · intro w' hSw; (try dsimp only at hSw); go_simp; try with_reducible rfl
  try simp only [Act.put, List.setIfInBounds_toArray, List.set_cons_zero, List.set_cons_succ]
  refine takeWE (i := 9) (d := (some 29)) (v := ?_) rfl rfl (by kernel_rfl) (by kernel_rfl) (by kernel_rfl) (by kernel_rfl) (by kernel_rfl) (fun _ _ _ h => h) (by rfl) ?_ (by assumption) ?_
  rotate_left
  · intro w' hSw; (try dsimp only at hSw); go_simp; try with_reducible rfl
  try simp only [Act.put, List.setIfInBounds_toArray, List.set_cons_zero, List.set_cons_succ]
  refine takeWE (i := 10) (d := (some 30)) (v := ?_) rfl rfl (by kernel_rfl) (by kernel_rfl) (by kernel_rfl) (by kernel_rfl) (by kernel_rfl) (fun _ _ _ h => h) (by rfl) ?_ (by assumption) ?_
  rotate_left
  · intro w' hSw; (try dsimp only at hSw); go_simp; try with_reducible rfl
  try simp only [Act.put, List.setIfInBounds_toArray, List.set_cons_zero, List.set_cons_succ]
  refine takeWE (i := 11) (d := (some 31)) (v := ?_) rfl rfl (by kernel_rfl) (by kernel_rfl) (by kernel_rfl) (by kernel_rfl) (by kernel_rfl) (fun _ _ _ h => h) (by rfl) ?_ (by assumption) ?_
  rotate_left
  · intro w' hSw; (try dsimp only at hSw); go_simp; try with_reducible rfl
  try simp only [Act.put, List.setIfInBounds_toArray, List.set_cons_zero, List.set_cons_succ]
  refine takeWE (i := 12) (d := (some 32)) (v := ?_) rfl rfl (by kernel_rfl) (by kernel_rfl) (by kernel_rfl) (by kernel_rfl) (by kernel_rfl) (fun _ _ _ h => h) (by rfl) ?_ (by assumption) ?_
  rotate_left
  · intro w' hSw; (try dsimp only at hSw); go_simp; try with_reducible rfl
  try simp only [Act.put, List.setIfInBounds_toArray, List.set_cons_zero, List.set_cons_succ]
  refine wpE_ready (rs := [13]) (by kernel_rfl) (by simp) ?_
  refine AllE.last rfl (by kernel_rfl) (fun K hK => ?_)
  go_simp
  go_wp2_with (fail)
  refine hK.out _ _ ?_
  clear hK K hHeld
  go_wp2_with (fail)
  go_ret
  exact ⟨rfl, (Chg.refl [] w).drew⟩
set_option maxRecDepth 100000 in
set_option maxHeartbeats 6400000 in
theorem rspoil_yesH (h : RefH w0 w gx A c ms) (hp : 0 < ms.length) (p a : Int) (b : UInt8) (i : Nat) (hpi : pickN p ms.length = i) (f t : Int) (d : List UInt8) (mA : Option Addr) (mc : Nat) (hm : ms[i]? = some ⟨f, t, d, mA, mc, false⟩) (hb : b ≠ 0) (hd : 0 < d.length) (hdl : d.length ≤ 1099511627776) (j : Nat) (hj : pickN a d.length = j) (y xb : UInt8) (hy : d[j]? = some y) (hxb : y ^^^ b = xb) :
    Calls Try.prog 33 #[.pointer (some ⟨gx, 0, none⟩), .int .i64 p, .int .i64 a, .int .u8 (b.toNat : Int)] w fun e w' => e = .returned (.bool true) ∧ ∃ A5 c5, RefH w0 w' gx A c (ms.set i ⟨f, t, d.set j xb, A5, c5, true⟩) ∧ Chg (blk A) w w' ∧ (∀ k ∈ blk A5, w.heap.size ≤ k) := by
  have hi : i < ms.length := by rw [← hpi]; exact pickN_lt hp
  obtain ⟨q, hq, hmod⟩ := pick_mod p hp
  rw [hpi] at hmod
  obtain ⟨q2, hq2, hmodb⟩ := pick_mod a hd
  rw [hj] at hmodb
  obtain ⟨g, rfl, hg, hgx, r0, r1, r2, r3⟩ := h.pick2 hm
  simp only at r0 r1 r2 r3
  have HH := Lib.hid h
  have HM := Lib.hid hm
  have HI := Lib.hid hi
  have c0 : w.cell? ⟨gx, 0, none⟩ = some (.slice (some ⟨g, 0, none⟩) ms.length c) := h.at_.cell 0
  have hbz : ((ms.length : Int) == 0) = false := by rw [beq_eq_false_iff_ne]; omega
  have hb2 : ¬ (ms.length : Int) = 0 := by omega
  have hii : (i : Int) < (ms.length : Int) := by omega
  have hne : ¬ ms = [] := fun e => by rw [e] at hp; simp at hp
  have hmod2 : Int.tmod (q : Int) (ms.length : Int) = (i : Int) := by rw [← hmod]; rfl
  have hbb : ((b.toNat : Int) == 0) = false := by
    rw [beq_eq_false_iff_ne]; intro e; exact hb (UInt8.toNat_inj.1 (by simpa using e))
  have hdb : ((d.length : Int) == 0) = false := by rw [beq_eq_false_iff_ne]; omega
  have hdb2 : ¬ (d.length : Int) = 0 := by omega
  have hdne : ¬ d = [] := fun e => by rw [e] at hd; simp at hd
  have hmodb2 : Int.tmod (q2 : Int) (d.length : Int) = (j : Int) := by rw [← hmodb]; rfl
  have hjl : j < d.length := by rw [← hj]; exact pickN_lt hd
  have hji : (j : Int) < (d.length : Int) := by omega
  have HX : Hid (bits .xor .u8 (y.toNat : Int) (b.toNat : Int) = (xb.toNat : Int)) := by unfold Hid; rw [xor_u8, hxb]
  have HY : Hid (d[j]? = some y) := hy
  have HJL := Lib.hid hjl
  have HD := Lib.hid hd
  have HO := Lib.hid (h.dat _ (List.mem_of_getElem? hm))
  simp only at HO
  have r0' := (((Chg.refl [] w).drew).cell (p := ⟨g, i * 4, none⟩) hg (by simp)).trans r0
  have r1' := (((Chg.refl [] w).drew).cell (p := ⟨g, i * 4 + 1, none⟩) hg (by simp)).trans r1
  have r2' := (((Chg.refl [] w).drew).cell (p := ⟨g, i * 4 + 2, none⟩) hg (by simp)).trans r2
  have r3' := (((Chg.refl [] w).drew).cell (p := ⟨g, i * 4 + 3, none⟩) hg (by simp)).trans r3
  have HGD0 : Hid (w0.heap.size ≤ g) := (own_in h.row g (by simp [blk])).1
  have HDT : Hid (∀ (k : Nat) (m' : UdV), ms[k]? = some m' → ∀ x ∈ blk m'.A, x < w.heap.size) := fun k m' hk x hx => (own_in (h.dat m' (List.mem_of_getElem? hk)) x hx).2
  clear hm h hi hpi hb hj hy hxb hjl hd
  go_enter Try.func33, Try.ntmps33
  go_upto_region 3 with (fail)
  refine wp_regionE 13 (fun w' => w'.cell? ⟨gx, 0, none⟩ = some (.slice (some ⟨g, 0, none⟩) ms.length c)) (by kernel_rfl) ?_ (fun hHeld => ?_)
  · exact (HH.out.keep ((Chg.refl [] w).drew)).at_.cell 0
  refine takeWE (i := 0) (d := (some 20)) (v := ?_) rfl rfl (by kernel_rfl) (by kernel_rfl) (by kernel_rfl) (by kernel_rfl) (by kernel_rfl) (fun _ _ _ h => h) (by rfl) ?_ (by assumption) ?_
  rotate_left
  · intro w' hSw; (try dsimp only at hSw); go_simp; try with_reducible rfl
  try simp only [Act.put, List.setIfInBounds_toArray, List.set_cons_zero, List.set_cons_succ]
  refine takeWE (i := 1) (d := (some 21)) (v := ?_) rfl rfl (by kernel_rfl) (by kernel_rfl) (by kernel_rfl) (by kernel_rfl) (by kernel_rfl) (fun _ _ _ h => h) (by rfl) ?_ (by assumption) ?_
  rotate_left
  · intro w' hSw; (try dsimp only at hSw); go_simp; try with_reducible rfl
  try simp only [Act.put, List.setIfInBounds_toArray, List.set_cons_zero, List.set_cons_succ]
  refine takeWE (i := 2) (d := (some 22)) (v := ?_) rfl rfl (by kernel_rfl) (by kernel_rfl) (by kernel_rfl) (by kernel_rfl) (by kernel_rfl) (fun _ _ _ h => h) (by rfl) ?_ (by assumption) ?_
  rotate_left
  · intro w' hSw; (try dsimp only at hSw); go_simp; try with_reducible rfl
  try simp only [Act.put, List.setIfInBounds_toArray, List.set_cons_zero, List.set_cons_succ]
  refine takeWE (i := 3) (d := (some 23)) (v := ?_) rfl rfl (by kernel_rfl) (by kernel_rfl) (by kernel_rfl) (by kernel_rfl) (by kernel_rfl) (fun _ _ _ h => h) (by rfl) ?_ (by assumption) ?_
  rotate_left
  · intro w' hSw; (try dsimp only at hSw); go_simp; try with_reducible rfl
  try simp only [Act.put, List.setIfInBounds_toArray, List.set_cons_zero, List.set_cons_succ]
  refine takeWE (i := 4) (d := (some 24)) (v := ?_) rfl rfl (by kernel_rfl) (by kernel_rfl) (by kernel_rfl) (by kernel_rfl) (by kernel_rfl) (fun _ _ _ h => h) (by rfl) ?_ (by assumption) ?_
  rotate_left
  · intro w' hSw; (try dsimp only at hSw); go_simp; try with_reducible rfl
  try simp only [Act.put, List.setIfInBounds_toArray, List.set_cons_zero, List.set_cons_succ]
  refine takeWE (i := 5) (d := (some 25)) (v := ?_) rfl rfl (by kernel_rfl) (by kernel_rfl) (by kernel_rfl) (by kernel_rfl) (by kernel_rfl) (fun _ _ _ h => h) (by rfl) ?_ (by assumption) ?_
  rotate_left
  · intro w' hSw; (try dsimp only at hSw); go_simp; try with_reducible rfl
  try simp only [Act.put, List.setIfInBounds_toArray, List.set_cons_zero, List.set_cons_succ]
  refine takeWE (i := 6) (d := (some 26)) (v := ?_) rfl rfl (by kernel_rfl) (by kernel_rfl) (by kernel_rfl) (by kernel_rfl) (by kernel_rfl) (fun _ _ _ h => h) (by rfl) ?_ (by assumption) ?_
  rotate_left
  · intro w' hSw; (try dsimp only at hSw); go_simp; try with_reducible rfl
  try simp only [Act.put, List.setIfInBounds_toArray, List.set_cons_zero, List.set_cons_succ]
  refine takeWE (i := 7) (d := (some 27)) (v := ?_) rfl rfl (by kernel_rfl) (by kernel_rfl) (by kernel_rfl) (by kernel_rfl) (by kernel_rfl) (fun _ _ _ h => h) (by rfl) ?_ (by assumption) ?_
  rotate_left
  · intro w' hSw; (try dsimp only at hSw); go_simp; try with_reducible rfl
  try simp only [Act.put, List.setIfInBounds_toArray, List.set_cons_zero, List.set_cons_succ]
  refine takeWE (i := 8) (d := (some 28)) (v := ?_) rfl rfl (by kernel_rfl) (by kernel_rfl) (by kernel_rfl) (by kernel_rfl) (by kernel_rfl) (fun _ _ _ h => h) (by rfl) ?_ (by assumption) ?_
  rotate_left
  · intro w' hSw; (try dsimp only at hSw); go_simp; try with_reducible rfl
  try simp only [Act.put, List.setIfInBounds_toArray, List.set_cons_zero, List.set_cons_succ]
  refine takeWE (i := 9) (d := (some 29)) (v := ?_) rfl rfl (by kernel_rfl) (by kernel_rfl) (by kernel_rfl) (by kernel_rfl) (by kernel_rfl) (fun _ _ _ h => h) (by rfl) ?_ (by assumption) ?_
  rotate_left
  · intro w' hSw; (try dsimp only at hSw); go_simp; try with_reducible rfl
  try simp only [Act.put, List.setIfInBounds_toArray, List.set_cons_zero, List.set_cons_succ]
  refine takeWE (i := 10) (d := (some 30)) (v := ?_) rfl rfl (by kernel_rfl) (by kernel_rfl) (by kernel_rfl) (by kernel_rfl) (by kernel_rfl) (fun _ _ _ h => h) (by rfl) ?_ (by assumption) ?_
  rotate_left
  · intro w' hSw; (try dsimp only at hSw); go_simp; try with_reducible rfl
  try simp only [Act.put, List.setIfInBounds_toArray, List.set_cons_zero, List.set_cons_succ]
  refine takeWE (i := 11) (d := (some 31)) (v := ?_) rfl rfl (by kernel_rfl) (by kernel_rfl) (by kernel_rfl) (by kernel_rfl) (by kernel_rfl) (fun _ _ _ h => h) (by rfl) ?_ (by assumption) ?_
  rotate_left
  · intro w' hSw; (try dsimp only at hSw); go_simp; try with_reducible rfl
  try simp only [Act.put, List.setIfInBounds_toArray, List.set_cons_zero, List.set_cons_succ]
  refine takeWE (i := 12) (d := (some 32)) (v := ?_) rfl rfl (by kernel_rfl) (by kernel_rfl) (by kernel_rfl) (by kernel_rfl) (by kernel_rfl) (fun _ _ _ h => h) (by rfl) ?_ (by assumption) ?_
  rotate_left
  · intro w' hSw; (try dsimp only at hSw); go_simp; try with_reducible rfl
  try simp only [Act.put, List.setIfInBounds_toArray, List.set_cons_zero, List.set_cons_succ]
  refine wpE_ready (rs := [13]) (by kernel_rfl) (by simp) ?_
  refine AllE.last rfl (by kernel_rfl) (fun K hK => ?_)
  go_simp
  go_wp2_with (fail)
  refine hK.out _ _ ?_
  clear hK K hHeld
  have HDR : Chg [] w w.drew := (Chg.refl [] w).drew
  have H1 := Lib.hid (HH.out.keep HDR)
  have HC1 := Lib.hid HDR
  have HO1 := Lib.hid (own_k0 HO.out HDR)
  have fz3 : w.drew.frozen? ⟨g, i * 4 + 3, none⟩ = false := own_free H1.out.row _
  have hg1 : g < w.drew.heap.size := hg
  clear HDR r0 r1 r2 r3 c0 HH HO
  generalize w.drew = w1 at *
  go_wp2_with (fail)
  have H2 := Lib.hid (H1.out.setC HM.out (x := ⟨f, t, d, mA, mc, true⟩) (j := 3) (by omega) (u := .bool true) rfl HO1.out)
  have HM2 : Hid ((ms.set i ⟨f, t, d, mA, mc, true⟩)[i]? = some ⟨f, t, d, mA, mc, true⟩) := by unfold Hid; rw [List.getElem?_set_self HI.out]
  have HO2 := Lib.hid (H2.out.dat _ (List.mem_of_getElem? HM2.out))
  simp only at HO2
  have HC2 : Hid (Chg [g] w (w1.setCell ⟨g, i * 4 + 3, none⟩ (.bool true))) := (HC1.out.mono (T := [g]) (by simp)).setCell (.inl (by simp)) _
  clear r0' r1' r2' r3' fz3 H1 HO1 HC1
  generalize w1.setCell ⟨g, i * 4 + 3, none⟩ (.bool true) = w2 at *
  refine (rown_any _ f t mA _ mc d rfl (Rd.of_own HO2.out) hdl).mono ?_
  rintro e w3 ⟨A5, c5, rfl, hown5, hc5⟩
  have H3 := Lib.hid (H2.out.keep hc5)
  have HC3 : Hid (Chg [g] w w3) := HC2.out.trans hc5 (by simp)
  have HO3 : Hid (w3.ownsRow w0.heap.size 5 1 (.slice A5 d.length c5) d.length (cB d)) := own_up hown5 H2.out.chg.size
  have HB5 : Hid (∀ k ∈ blk A5, w.heap.size ≤ k) := fun k hk => Nat.le_trans HC2.out.size (own_in hown5 k hk).1
  obtain ⟨g', hg', hg3, hgx3, r0, r1, r2, r3⟩ := H3.out.pick2 HM2.out
  obtain rfl : g = g' := by injection hg' with h; injection h
  simp only at r0 r1 r2 r3
  have f0 : w3.frozen? ⟨g, i * 4, none⟩ = false := own_free H3.out.row _
  have f1 : w3.frozen? ⟨g, i * 4 + 1, none⟩ = false := own_free H3.out.row _
  have f2 : w3.frozen? ⟨g, i * 4 + 2, none⟩ = false := own_free H3.out.row _
  have HO3b := Lib.hid (H3.out.dat _ (List.mem_of_getElem? HM2.out))
  simp only at HO3b
  clear H2 HO2 HC2 hown5 hc5 hg'
  go_upto_region 8 with (fail)
  have hkeep : ∀ {W : World} {k : Nat} {u v : Value} {n : Nat} {xs : List Value}, RefH w0 W gx (some ⟨g, 0, none⟩) c (ms.set i ⟨f, t, d, mA, mc, true⟩) → W.ownsRow w0.heap.size 5 1 v n xs → (W.setCell ⟨g, k, none⟩ u).ownsRow w0.heap.size 5 1 v n xs := fun hR ho => own_keep ho ((Chg.refl [g] _).setCell (.inl (by simp)) _) (fun b hb hm2 => own_ne1 ho hR.row (by decide) b hb (by simp at hm2; subst hm2; rfl))
  have e0 : (ms.set i ⟨f, t, d, mA, mc, true⟩).set i ⟨f, t, d, mA, mc, true⟩ = ms.set i ⟨f, t, d, mA, mc, true⟩ := List.set_set _
  have H30 := H3.out.setC HM2.out (x := ⟨f, t, d, mA, mc, true⟩) (j := 0) (by omega) (u := .int .i64 f) rfl HO3b.out
  rw [e0, Nat.add_zero] at H30
  have o30 := hkeep (k := i * 4) (u := .int .i64 f) H3.out HO3b.out
  have p30 := hkeep (k := i * 4) (u := .int .i64 f) H3.out HO3.out
  have H31 := H30.setC HM2.out (x := ⟨f, t, d, mA, mc, true⟩) (j := 1) (by omega) (u := .int .i64 t) rfl o30
  rw [e0] at H31
  have p31 := hkeep (k := i * 4 + 1) (u := .int .i64 t) H30 p30
  have H32 := H31.setC HM2.out (x := ⟨f, t, d, A5, c5, true⟩) (j := 2) (by omega) (u := .slice A5 d.length c5) rfl p31
  rw [List.set_set] at H32
  have H4 := Lib.hid H32
  have HC4 : Hid (Chg [g] w (((w3.setCell ⟨g, i * 4, none⟩ (.int .i64 f)).setCell ⟨g, i * 4 + 1, none⟩ (.int .i64 t)).setCell ⟨g, i * 4 + 2, none⟩ (.slice A5 d.length c5))) := ((HC3.out.setCell (.inl (by simp)) _).setCell (.inl (by simp)) _).setCell (.inl (by simp)) _
  have HM4 : Hid ((ms.set i ⟨f, t, d, A5, c5, true⟩)[i]? = some ⟨f, t, d, A5, c5, true⟩) := by unfold Hid; rw [List.getElem?_set_self HI.out]
  clear H30 H31 H32 o30 p30 p31 e0 hkeep H3 HC3 HO3b HM2 r0 r1 r2 r3 f0 f1 f2
  generalize ((w3.setCell ⟨g, i * 4, none⟩ (.int .i64 f)).setCell ⟨g, i * 4 + 1, none⟩ (.int .i64 t)).setCell ⟨g, i * 4 + 2, none⟩ (.slice A5 d.length c5) = w4 at *
  have ho4 := H4.out.dat _ (List.mem_of_getElem? HM4.out)
  simp only at ho4
  obtain ⟨gd, hgd⟩ : ∃ gd, A5 = some ⟨gd, 0, none⟩ := by
    rcases ho4.2 with ⟨_, h4⟩ | ⟨gd, cap, cur, h4, _⟩
    · have := HD.out; omega
    · injection h4 with h4; exact ⟨gd, h4⟩
  subst hgd
  have HGD : Hid (w.heap.size ≤ gd) := HB5.out gd (by simp [blk])
  have HFR : Hid (∀ (k : Nat) (m' : UdV), (ms.set i ⟨f, t, d, some ⟨gd, 0, none⟩, c5, true⟩)[k]? = some m' → k ≠ i → gd ∉ blk m'.A) := fun k m' hk hki hm2 => by
    rw [List.getElem?_set_ne (Ne.symm hki)] at hk
    have h1 := HDT.out k m' hk gd hm2
    have h2 := HGD.out
    omega
  have HSS : Hid ((ms.set i ⟨f, t, d, some ⟨gd, 0, none⟩, c5, true⟩).set i ⟨f, t, d.set j xb, some ⟨gd, 0, none⟩, c5, true⟩ = ms.set i ⟨f, t, d.set j xb, some ⟨gd, 0, none⟩, c5, true⟩) := List.set_set _
  have hgdl : gd < w4.heap.size := (own_in ho4 gd (by simp [blk])).2
  have y0 : w4.cell? ⟨gd, j, none⟩ = some (.int .u8 (y.toNat : Int)) := by
    obtain ⟨rd, had, _, hcd⟩ := (Rd.of_own ho4).at_ HD.out
    obtain rfl : rd = ⟨gd, 0, none⟩ := by injection had with had; exact had.symm
    have hyj : d[j]'HJL.out = y := by have h := HY.out; rw [List.getElem?_eq_getElem HJL.out] at h; exact Option.some.inj h
    have h1 := hcd j _ (cB_get HJL.out)
    rw [hyj] at h1
    have e : (⟨gd, 0, none⟩ : Addr).add j = ⟨gd, j, none⟩ := by unfold Addr.add; split <;> simp_all
    rwa [e] at h1
  have fzd : w4.frozen? ⟨gd, j, none⟩ = false := own_free ho4 _
  obtain ⟨g', hg', hg4, hgx4, _, _, r2, _⟩ := H4.out.pick2 HM4.out
  obtain rfl : g = g' := by injection hg' with h; injection h
  simp only at r2
  have KK : Hid (∀ w', Chg [] w4 w' → w'.cell? ⟨g, i * 4 + 2, none⟩ = some (.slice (some ⟨gd, 0, none⟩) d.length c5) ∧ w'.cell? ⟨gd, j, none⟩ = some (.int .u8 (y.toNat : Int))) := fun w' hc => ⟨(hc.cell (p := ⟨g, i * 4 + 2, none⟩) hg4 (by simp)).trans r2, (hc.cell (p := ⟨gd, j, none⟩) hgdl (by simp)).trans y0⟩
  have HX1 := HX.out
  clear hg' r2 ho4 hgx4 HY HX
  refine wp_regionE 19 (fun w' => w'.cell? ⟨g, i * 4 + 2, none⟩ = some (.slice (some ⟨gd, 0, none⟩) d.length c5) ∧ w'.cell? ⟨gd, j, none⟩ = some (.int .u8 (y.toNat : Int))) (by kernel_rfl) ?_ (fun hHeld => ?_)
  · exact KK.out _ ((Chg.refl [] w4).drew)
  refine takeWE (i := 0) (d := (some 57)) (v := ?_) rfl rfl (by kernel_rfl) (by kernel_rfl) (by kernel_rfl) (by kernel_rfl) (by kernel_rfl) (fun _ _ _ h => h) (by rfl) ?_ (by assumption) ?_
  rotate_left
  · intro w' hSw; (try dsimp only at hSw); go_simp; try with_reducible rfl
  try simp only [Act.put, List.setIfInBounds_toArray, List.set_cons_zero, List.set_cons_succ]
  refine takeWE (i := 1) (d := (some 58)) (v := ?_) rfl rfl (by kernel_rfl) (by kernel_rfl) (by kernel_rfl) (by kernel_rfl) (by kernel_rfl) (fun _ _ _ h => h) (by rfl) ?_ (by assumption) ?_
  rotate_left
  · intro w' hSw; (try dsimp only at hSw); go_simp; try with_reducible rfl
  try simp only [Act.put, List.setIfInBounds_toArray, List.set_cons_zero, List.set_cons_succ]
  refine takeWE (i := 2) (d := (some 59)) (v := ?_) rfl rfl (by kernel_rfl) (by kernel_rfl) (by kernel_rfl) (by kernel_rfl) (by kernel_rfl) (fun _ _ _ h => h) (by rfl) ?_ (by assumption) ?_
  rotate_left
  · intro w' hSw; (try dsimp only at hSw); go_simp; try with_reducible rfl
  try simp only [Act.put, List.setIfInBounds_toArray, List.set_cons_zero, List.set_cons_succ]
  refine takeWE (i := 3) (d := (some 60)) (v := ?_) rfl rfl (by kernel_rfl) (by kernel_rfl) (by kernel_rfl) (by kernel_rfl) (by kernel_rfl) (fun _ _ _ h => h) (by rfl) ?_ (by assumption) ?_
  rotate_left
  · intro w' hSw; (try dsimp only at hSw); go_simp; try with_reducible rfl
  try simp only [Act.put, List.setIfInBounds_toArray, List.set_cons_zero, List.set_cons_succ]
  refine takeWE (i := 4) (d := (some 61)) (v := ?_) rfl rfl (by kernel_rfl) (by kernel_rfl) (by kernel_rfl) (by kernel_rfl) (by kernel_rfl) (fun _ _ _ h => h) (by rfl) ?_ (by assumption) ?_
  rotate_left
  · intro w' hSw; (try dsimp only at hSw); go_simp; try with_reducible rfl
  try simp only [Act.put, List.setIfInBounds_toArray, List.set_cons_zero, List.set_cons_succ]
  refine takeWE (i := 5) (d := (some 62)) (v := ?_) rfl rfl (by kernel_rfl) (by kernel_rfl) (by kernel_rfl) (by kernel_rfl) (by kernel_rfl) (fun _ _ _ h => h) (by rfl) ?_ (by assumption) ?_
  rotate_left
  · intro w' hSw; (try dsimp only at hSw); go_simp; try with_reducible rfl
  try simp only [Act.put, List.setIfInBounds_toArray, List.set_cons_zero, List.set_cons_succ]
  refine takeWE (i := 6) (d := (some 63)) (v := ?_) rfl rfl (by kernel_rfl) (by kernel_rfl) (by kernel_rfl) (by kernel_rfl) (by kernel_rfl) (fun _ _ _ h => h) (by rfl) ?_ (by assumption) ?_
  rotate_left
  · intro w' hSw; (try dsimp only at hSw); go_simp; try with_reducible rfl
  try simp only [Act.put, List.setIfInBounds_toArray, List.set_cons_zero, List.set_cons_succ]
  refine takeWE (i := 7) (d := (some 64)) (v := ?_) rfl rfl (by kernel_rfl) (by kernel_rfl) (by kernel_rfl) (by kernel_rfl) (by kernel_rfl) (fun _ _ _ h => h) (by rfl) ?_ (by assumption) ?_
  rotate_left
  · intro w' hSw; (try dsimp only at hSw); go_simp; try with_reducible rfl
  try simp only [Act.put, List.setIfInBounds_toArray, List.set_cons_zero, List.set_cons_succ]
  refine takeWE (i := 8) (d := (some 65)) (v := ?_) rfl rfl (by kernel_rfl) (by kernel_rfl) (by kernel_rfl) (by kernel_rfl) (by kernel_rfl) (fun _ _ _ h => h) (by rfl) ?_ (by assumption) ?_
  rotate_left
  · intro w' hSw; (try dsimp only at hSw); go_simp; try with_reducible rfl
  try simp only [Act.put, List.setIfInBounds_toArray, List.set_cons_zero, List.set_cons_succ]
  refine takeWE (i := 9) (d := (some 66)) (v := ?_) rfl rfl (by kernel_rfl) (by kernel_rfl) (by kernel_rfl) (by kernel_rfl) (by kernel_rfl) (fun _ _ _ h => h) (by rfl) ?_ (by assumption) ?_
  rotate_left
  · intro w' hSw; (try dsimp only at hSw); go_simp; try with_reducible rfl
  try simp only [Act.put, List.setIfInBounds_toArray, List.set_cons_zero, List.set_cons_succ]
  refine takeWE (i := 10) (d := (some 67)) (v := ?_) rfl rfl (by kernel_rfl) (by kernel_rfl) (by kernel_rfl) (by kernel_rfl) (by kernel_rfl) (fun _ _ _ h => h) (by rfl) ?_ (by assumption) ?_
  rotate_left
  · intro w' hSw; (try dsimp only at hSw); go_simp; try with_reducible rfl
  try simp only [Act.put, List.setIfInBounds_toArray, List.set_cons_zero, List.set_cons_succ]
  refine takeWE (i := 11) (d := (some 68)) (v := ?_) rfl rfl (by kernel_rfl) (by kernel_rfl) (by kernel_rfl) (by kernel_rfl) (by kernel_rfl) (fun _ _ _ h => h) (by rfl) ?_ (by assumption) ?_
  rotate_left
  · intro w' hSw; (try dsimp only at hSw); go_simp; try with_reducible rfl
  try simp only [Act.put, List.setIfInBounds_toArray, List.set_cons_zero, List.set_cons_succ]
  refine takeWE (i := 12) (d := (some 69)) (v := ?_) rfl rfl (by kernel_rfl) (by kernel_rfl) (by kernel_rfl) (by kernel_rfl) (by kernel_rfl) (fun _ _ _ h => h) (by rfl) ?_ (by assumption) ?_
  rotate_left
  · intro w' hSw; (try dsimp only at hSw); go_simp; try with_reducible rfl
  try simp only [Act.put, List.setIfInBounds_toArray, List.set_cons_zero, List.set_cons_succ]
  refine takeWE (i := 13) (d := (some 70)) (v := ?_) rfl rfl (by kernel_rfl) (by kernel_rfl) (by kernel_rfl) (by kernel_rfl) (by kernel_rfl) (fun _ _ _ h => h) (by rfl) ?_ (by assumption) ?_
  rotate_left
  · intro w' hSw; (try dsimp only at hSw); go_simp; try with_reducible rfl
  try simp only [Act.put, List.setIfInBounds_toArray, List.set_cons_zero, List.set_cons_succ]
  refine takeWE (i := 14) (d := (some 71)) (v := ?_) rfl rfl (by kernel_rfl) (by kernel_rfl) (by kernel_rfl) (by kernel_rfl) (by kernel_rfl) (fun _ _ _ h => h) (by rfl) ?_ (by assumption) ?_
  rotate_left
  · intro w' hSw; (try dsimp only at hSw); go_simp; try with_reducible rfl
  try simp only [Act.put, List.setIfInBounds_toArray, List.set_cons_zero, List.set_cons_succ]
  refine takeWE (i := 15) (d := (some 72)) (v := ?_) rfl rfl (by kernel_rfl) (by kernel_rfl) (by kernel_rfl) (by kernel_rfl) (by kernel_rfl) (fun _ _ _ h => h) (by rfl) ?_ (by assumption) ?_
  rotate_left
  · intro w' hSw; (try dsimp only at hSw); go_simp; try with_reducible rfl
  try simp only [Act.put, List.setIfInBounds_toArray, List.set_cons_zero, List.set_cons_succ]
  refine takeWE (i := 16) (d := (some 73)) (v := ?_) rfl rfl (by kernel_rfl) (by kernel_rfl) (by kernel_rfl) (by kernel_rfl) (by kernel_rfl) (fun _ _ _ h => h) (by rfl) ?_ (by assumption) ?_
  rotate_left
  · intro w' hSw; (try dsimp only at hSw); go_simp; try with_reducible rfl
  try simp only [Act.put, List.setIfInBounds_toArray, List.set_cons_zero, List.set_cons_succ]
  refine takeWE (i := 17) (d := (some 74)) (v := ?_) rfl rfl (by kernel_rfl) (by kernel_rfl) (by kernel_rfl) (by kernel_rfl) (by kernel_rfl) (fun _ _ _ h => h) (by rfl) ?_ (by assumption) ?_
  rotate_left
  · intro w' hSw; (try dsimp only at hSw); go_simp; try with_reducible rfl
  try simp only [Act.put, List.setIfInBounds_toArray, List.set_cons_zero, List.set_cons_succ]
  refine takeWE (i := 18) (d := (some 75)) (v := ?_) rfl rfl (by kernel_rfl) (by kernel_rfl) (by kernel_rfl) (by kernel_rfl) (by kernel_rfl) (fun _ _ _ h => h) (by rfl) ?_ (by assumption) ?_
  rotate_left
  · intro w' hSw; (try dsimp only at hSw); go_simp; try with_reducible rfl
  try simp only [Act.put, List.setIfInBounds_toArray, List.set_cons_zero, List.set_cons_succ]
  refine wpE_ready (rs := [19]) (by kernel_rfl) (by simp) ?_
  refine AllE.last rfl (by kernel_rfl) (fun K hK => ?_)
  go_simp
  go_wp2_with (fail)
  refine hK.out _ _ ?_
  clear hK K hHeld
  go_wp2_with (fail)
  go_ret
  refine ⟨rfl, some ⟨gd, 0, none⟩, c5, ?_, ?_, HB5.out⟩
  · have h := (H4.out.byte (gd := gd) HM4.out rfl HFR.out j xb).keep ((Chg.refl [] _).drew)
    rw [HSS.out] at h
    exact h
  · have h9 : Chg [gd] w4 ((w4.setCell ⟨gd, j, none⟩ (.int .u8 (xb.toNat : Int))).drew) := ((Chg.refl _ _).setCell (.inl (by simp)) _).drew
    exact HC4.out.trans h9 (fun x hx => .inr (by simp at hx; subst hx; exact HGD.out))
end
end Go.Proofs.Ytbgdcplbekoemaa
