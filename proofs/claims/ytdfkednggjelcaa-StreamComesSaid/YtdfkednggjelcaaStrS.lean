
/-
  stream's Send.
-/
import Derived.Test.YtdfkednggjelcaaStrT
import Derived.Deep.RegionHeld3
namespace Go.Proofs.Ytdfkednggjelcaa
open Go.RowKit
set_option linter.unusedVariables false
attribute [local go_sem ↓] run_min2 run_max2

/-- A message that stands in memory. -/
structure MgV where
  f : Int
  t : Int
  d : List UInt8
  A : Option Addr
  cp : Nat
def MgV.cells (x : MgV) : List Value := [.int .i64 x.f, .int .i64 x.t, .slice x.A x.d.length x.cp]
def cMg (l : List MgV) : List Value := l.flatMap MgV.cells
def MgV.p (x : MgV) : Int × Int × List UInt8 := (x.f, x.t, x.d)
theorem cMg_len (l : List MgV) : (cMg l).length = l.length * 3 := by
  induction l with
  | nil => rfl
  | cons a l ih =>
    show (a.cells ++ cMg l).length = _
    rw [List.length_append, ih, List.length_cons, Nat.succ_mul, Nat.add_comm]; rfl
/-- Messages that are handed back. -/
def MsgsAt (w : World) (A : Option Addr) (ms : List MgV) (l : List (Int × Int × List UInt8)) : Prop := Hid (ms.map MgV.p = l) ∧ Rd w 3 A ms.length (cMg ms) ∧ ∀ x ∈ ms, Rd w 1 x.A x.d.length (cB x.d)
theorem MsgsAt.keep0 {w w' : World} {A : Option Addr} {ms : List MgV} {l : List (Int × Int × List UInt8)} (h : MsgsAt w A ms l) (hc : Chg [] w w') : MsgsAt w' A ms l :=
  ⟨h.1, h.2.1.keep0 hc, fun x hx => (h.2.2 x hx).keep0 hc⟩
theorem MsgsAt.nil (w : World) (A : Option Addr) : MsgsAt w A [] [] := ⟨rfl, Rd.nil _ _ _, by simp⟩

/-- Messages in memory that is new. -/
def MsgsNew (w : World) (A : Option Addr) (ms : List MgV) : Prop := (∀ k, k ∈ blk A → w.heap.size ≤ k) ∧ (∀ x ∈ ms, 0 < x.d.length → ∀ k, k ∈ blk x.A → w.heap.size ≤ k) ∧ ∀ x ∈ ms, x.d.length ≤ x.cp
theorem MsgsNew.nil (w : World) : MsgsNew w Option.none [] := ⟨by simp [blk], by simp, by simp⟩
theorem MsgsAt.keepS {w0 w w' : World} {A : Option Addr} {ms : List MgV} {l : List (Int × Int × List UInt8)} {S : List Nat} (h : MsgsAt w A ms l) (hn : MsgsNew w0 A ms) (hc : Chg S w w') (hS : ∀ k, k ∈ S → k < w0.heap.size) : MsgsAt w' A ms l :=
  ⟨h.1, h.2.1.keep hc (fun _ k hk hm => by have := hn.1 k hk; have := hS k hm; omega), fun x hx => (h.2.2 x hx).keep hc (fun h0 k hk hm => by have := hn.2.1 x hx h0 k hk; have := hS k hm; omega)⟩

def okL (a : Int) (l : List Rc) : Bool := l.all fun r => isR r && decide (r.o = a)
def conL : Int → List Rc → Bool
  | _, [] => true
  | f, r :: l => decide (r.q = f) && conL (f + 1) l
theorem okL_iff {a : Int} {l : List Rc} : okL a l = true ↔ ∀ r ∈ l, isR r = true ∧ r.o = a := by simp [okL]
theorem conL_iff : ∀ {l : List Rc} {f : Int}, conL f l = true ↔ ∀ (i : Nat) (h : i < l.length), l[i].q = f + i := by
  intro l
  induction l with
  | nil => intro f; simp [conL]
  | cons r l ih =>
    intro f
    simp only [conL, Bool.and_eq_true, decide_eq_true_eq]
    rw [ih]
    constructor
    · rintro ⟨h1, h2⟩ i hi
      cases i with
      | zero => show r.q = f + ((0 : Nat) : Int); omega
      | succ i =>
        have := h2 i (by simpa using hi)
        simp only [List.getElem_cons_succ]
        rw [this]; push_cast; omega
    · intro h
      have h0 : r.q = f + ((0 : Nat) : Int) := h 0 (by simp)
      refine ⟨by omega, fun i hi => ?_⟩
      have := h (i + 1) (by simpa using hi)
      simp only [List.getElem_cons_succ] at this
      rw [this]; push_cast; omega
/-- What is sent: the bytes, the error, what is held then. -/
def sendO (o : OSt) : List Rc → List UInt8 × Nat × OSt
  | [] => ([], 1, o)
  | r :: l => if okL o.a (r :: l) = false then ([], 1, o) else if 8 < (r :: l).length then ([], 5, o) else if conL r.q (r :: l) = false then ([], 12, o) else
    if r.q ≤ o.k ∨ o.n + 1 < r.q then ([], 12, o) else (encF (bodyW ⟨1, o.a, r.q, 0, 0, 0, 0, r :: l⟩), 0, { o with n := max o.n (r.q + (r :: l).length - 1), t := 0 })
def sentM (a b : Int) (r : List UInt8 × Nat × OSt) : List (Int × Int × List UInt8) := if r.2.1 = 0 then [(a, b, r.1)] else []
def SendPost (g : Nat) (T : TypeId) (w : World) (a b : Int) (r : List UInt8 × Nat × OSt) (e : Ending) (w' : World) : Prop := ∃ A c ms, e = .returned (.tuple #[.slice A ms.length c, .int .i64 r.2.1]) ∧ MsgsAt w' A ms (sentM a b r) ∧ MsgsNew w A ms ∧ At w' g T r.2.2.cells ∧ Chg [g] w w'
theorem SendPost.no {g : Nat} {T : TypeId} {w w' : World} {a b : Int} {o : OSt} {r : List UInt8 × Nat × OSt} {n : Nat} (h : r = ([], n + 1, o)) (ha : At w' g T o.cells) (hc : Chg [] w w') : SendPost g T w a b r (.returned (.tuple #[.slice none 0 0, .int .i64 ((n + 1 : Nat) : Int)])) w' := by
  subst h
  exact ⟨none, 0, [], rfl, by unfold sentM; rw [if_neg (by simp)]; exact MsgsAt.nil _ _, MsgsNew.nil _, ha, hc.mono (by simp)⟩
theorem sendO_cons (o : OSt) (r : Rc) (l : List Rc) : sendO o (r :: l) = if okL o.a (r :: l) = false then ([], 1, o) else if 8 < (r :: l).length then ([], 5, o) else if conL r.q (r :: l) = false then ([], 12, o) else
    if r.q ≤ o.k ∨ o.n + 1 < r.q then ([], 12, o) else (encF (bodyW ⟨1, o.a, r.q, 0, 0, 0, 0, r :: l⟩), 0, { o with n := max o.n (r.q + (r :: l).length - 1), t := 0 }) := rfl
theorem sendO_nil (o : OSt) : sendO o [] = ([], 1, o) := rfl
theorem sendO_bad {o : OSt} {l : List Rc} {i : Nat} (hi : i < l.length) (h : ¬ (isR l[i] = true ∧ l[i].o = o.a)) : sendO o l = ([], 1, o) := by
  cases l with
  | nil => rfl
  | cons r l =>
    have : okL o.a (r :: l) = false := by
      rw [Bool.eq_false_iff]; intro hk
      exact h (okL_iff.1 hk _ (List.getElem_mem hi))
    rw [sendO_cons, if_pos this]
theorem sendO_long {o : OSt} {l : List Rc} (h : okL o.a l = true) (hl : 8 < l.length) : sendO o l = ([], 5, o) := by
  cases l with
  | nil => simp at hl
  | cons r l => rw [sendO_cons, if_neg (by simp [h]), if_pos hl]
theorem sendO_gap {o : OSt} {l : List Rc} (h : okL o.a l = true) (hl : ¬ 8 < l.length) (h0 : 0 < l.length) {i : Nat} (hi : i < l.length) (hq : l[i].q ≠ l[0].q + i) : sendO o l = ([], 12, o) := by
  cases l with
  | nil => simp at h0
  | cons r l =>
    have : conL r.q (r :: l) = false := by
      rw [Bool.eq_false_iff]; intro hk
      exact hq (conL_iff.1 hk i hi)
    rw [sendO_cons, if_neg (by simp [h]), if_neg hl, if_pos this]
theorem sendO_off {o : OSt} {l : List Rc} (h : okL o.a l = true) (hl : ¬ 8 < l.length) (h0 : 0 < l.length) (hq : ∀ i (h : i < l.length), l[i].q = l[0].q + i) (hb : l[0].q ≤ o.k ∨ o.n + 1 < l[0].q) : sendO o l = ([], 12, o) := by
  cases l with
  | nil => simp at h0
  | cons r l =>
    have : conL r.q (r :: l) = true := conL_iff.2 fun i hi => hq i hi
    rw [sendO_cons, if_neg (by simp [h]), if_neg hl, if_neg (by simp [this]), if_pos (show r.q ≤ o.k ∨ o.n + 1 < r.q from hb)]
theorem sendO_yes {o : OSt} {l : List Rc} {f : Int} (h : okL o.a l = true) (hl : ¬ 8 < l.length) (h0 : 0 < l.length) (hq : ∀ i (h : i < l.length), l[i].q = f + i) (hb1 : ¬ f ≤ o.k) (hb2 : ¬ o.n + 1 < f) : sendO o l = (encF (bodyW ⟨1, o.a, f, 0, 0, 0, 0, l⟩), 0, { o with n := max o.n (f + l.length - 1), t := 0 }) := by
  cases l with
  | nil => simp at h0
  | cons r l =>
    have hf : r.q = f := by have h0 : r.q = f + ((0 : Nat) : Int) := hq 0 (by simp); omega
    subst hf
    have : conL r.q (r :: l) = true := conL_iff.2 fun i hi => hq i hi
    rw [sendO_cons, if_neg (by simp [h]), if_neg hl, if_neg (by simp [this]), if_neg (by omega)]
theorem isW_send {a f : Int} {l : List Rc} (ha0 : 0 ≤ a) (ha5 : a < 5) (h : okL a l = true) (hl : ¬ 8 < l.length) (h0 : 0 < l.length) (hq : ∀ i (h : i < l.length), l[i].q = f + i) : isW ⟨1, a, f, 0, 0, 0, 0, l⟩ = true := by
  have h1 := okL_iff.1 h l[0] (List.getElem_mem h0)
  have h2 := isR_iff.1 h1.1
  have h3 : l[0].q = f := by have := hq 0 h0; simp only [Int.natCast_zero, Int.add_zero] at this; omega
  have hg : goesL a f l = true := goesL_iff.2 fun i hi => by
    have := okL_iff.1 h l[i] (List.getElem_mem hi)
    exact ⟨this.1, this.2, hq i hi⟩
  have e1 := h2.q1
  have e2 := h2.q2
  rw [h3] at e1 e2
  have hh : headW ⟨1, a, f, 0, 0, 0, 0, l⟩ = true := by unfold headW; simp only [Bool.and_eq_true, decide_eq_true_eq]; omega
  have hg2 : goesW ⟨1, a, f, 0, 0, 0, 0, l⟩ = true := goesW_iff.2 ⟨hg, by simp only; omega, by simp only; omega⟩
  unfold isW
  rw [hh, hg2]
  rfl

set_option linter.unusedSimpArgs false
set_option maxRecDepth 100000 in
set_option maxHeartbeats 64000000 in
theorem send_any (w : World) (gi : Nat) (o : OSt) (hin : At w gi 95 o.cells) (ho : o.Ok) (A : Option Addr) (n c : Nat) (ls : List RcV) (hn : ls.length = n) (hr : Rd w 9 A ls.length (cRc ls)) (hrs : ∀ x ∈ ls, Rd w 1 x.A x.r.val.length (cB x.r.val)) (hls : ls.length ≤ 1000000) :
    Calls Try.prog 24 #[.pointer (some ⟨gi, 0, none⟩), .slice A n c] w (SendPost gi 95 w o.a o.b (sendO o (ls.map RcV.r))) := by
  subst hn
  have HR := Lib.hid hr
  have HRS := Lib.hid hrs
  have hgi0 : gi < w.heap.size := hin.lt
  obtain ⟨a, b, kk, nn, tt⟩ := o
  obtain ⟨a0, a5, _, _, k0, kn, n1, _, _⟩ := ho
  simp only at a0 a5 k0 kn n1
  clear hr hrs
  by_cases hz : ls.length = 0
  · have HE : Hid (sendO ⟨a, b, kk, nn, tt⟩ (ls.map RcV.r) = ([], 0 + 1, ⟨a, b, kk, nn, tt⟩)) := by
      rw [List.eq_nil_of_length_eq_zero hz]; rfl
    have hzb : ((ls.length : Int) == 0) = true := by rw [hz]; rfl
    have HZ := Lib.hid hz
    clear hz
    go_enter Try.func24, Try.ntmps24
    go_wp2_with (fail)
    go_ret2
    exact SendPost.no HE.out hin (Chg.refl _ _)
  have hzb : ((ls.length : Int) == 0) = false := by rw [beq_eq_false_iff_ne]; omega
  go_enter Try.func24, Try.ntmps24
  go_wp2_with (fail)
  go_loopw [22] (fun i wr => ∃ k : Nat, k ≤ ls.length ∧ i = .int .i64 k ∧ Hid (∀ j (h : j < ls.length), j < k → isR ls[j].r = true ∧ ls[j].r.o = a) ∧ Hid (At wr gi 95 (OSt.cells ⟨a, b, kk, nn, tt⟩)) ∧ Chg [] w wr) (fun i _ => ls.length - (intOf i).toNat)
  case atStart => exact ⟨0, Nat.zero_le _, rfl, (by intro j h hj; omega), hin, Chg.refl _ _⟩
  case round =>
    clear hin
    obtain ⟨k, hk, rfl, HI, HI0, hch⟩ := hrel
    by_cases hlt : k < ls.length
    · obtain ⟨ad, rfl, had, hc0, hc⟩ := (HR.out.keep0 hch).getR hlt
      have HNo : Hid (¬ (isR ls[k].r = true ∧ ls[k].r.o = a) → sendO ⟨a, b, kk, nn, tt⟩ (ls.map RcV.r) = ([], 0 + 1, ⟨a, b, kk, nn, tt⟩)) := fun h => sendO_bad (i := k) (by simpa using hlt) (by simpa using h)
      have HYes : Hid (isR ls[k].r = true → ls[k].r.o = a → ∀ j (h : j < ls.length), j < k + 1 → isR ls[j].r = true ∧ ls[j].r.o = a) := fun h1 h2 j h hj => by
        by_cases e : j = k
        · subst e; exact ⟨h1, h2⟩
        · exact HI.out j h (by omega)
      have hc1 := hc 1 _ (by omega) rfl
      have hc2 := hc 2 _ (by omega) rfl
      have hc3 := hc 3 _ (by omega) rfl
      have hc4 := hc 4 _ (by omega) rfl
      have hc5 := hc 5 _ (by omega) rfl
      have hc6 := hc 6 _ (by omega) rfl
      have hc7 := hc 7 _ (by omega) rfl
      have hc8 := hc 8 _ (by omega) rfl
      generalize ls[k] = r at *
      clear hc HI
      obtain ⟨⟨ro, rq, key, m, c', vo, val, gone, ttl⟩, A', cp⟩ := r
      simp only at hc0 hc1 hc2 hc3 hc4 hc5 hc6 hc7 hc8 HYes HNo
      have hki : (k : Int) < (ls.length : Int) := by omega
      go_wp2_with (fail)
      have ga := At.new wr 51 #[.int .i64 ro, .int .i64 rq, .string ⟨key.toArray⟩, .int .i64 m, .int .i64 c', .int .i64 vo, .slice A' val.length cp, .bool gone, .int .i64 ttl]
      have ai := (HI0.out.al (.cells #[.int .i64 ro, .int .i64 rq, .string ⟨key.toArray⟩, .int .i64 m, .int .i64 c', .int .i64 vo, .slice A' val.length cp, .bool gone, .int .i64 ttl] 51))
      have hcb := hch.alloc (.cells #[.int .i64 ro, .int .i64 rq, .string ⟨key.toArray⟩, .int .i64 m, .int .i64 c', .int .i64 vo, .slice A' val.length cp, .bool gone, .int .i64 ttl] 51)
      have hgw0 : w.heap.size ≤ wr.heap.size := hch.size
      clear hc0 hc1 hc2 hc3 hc4 hc5 hc6 hc7 hc8 hch HI0
      generalize hgw : wr.heap.size = g at *
      generalize wr.alloc (.cells #[.int .i64 ro, .int .i64 rq, .string ⟨key.toArray⟩, .int .i64 m, .int .i64 c', .int .i64 vo, .slice A' val.length cp, .bool gone, .int .i64 ttl] 51) = wb at *
      have KK : Hid (∀ w', Chg [] wb w' → w'.cell? ⟨g, 0, none⟩ = some (.int .i64 ro) ∧ w'.cell? ⟨g, 1, none⟩ = some (.int .i64 rq) ∧ w'.cell? ⟨g, 2, none⟩ = some (.string ⟨key.toArray⟩) ∧ w'.cell? ⟨g, 3, none⟩ = some (.int .i64 m) ∧ w'.cell? ⟨g, 4, none⟩ = some (.int .i64 c') ∧ w'.cell? ⟨g, 5, none⟩ = some (.int .i64 vo) ∧ w'.cell? ⟨g, 6, none⟩ = some (.slice A' val.length cp) ∧ w'.cell? ⟨g, 7, none⟩ = some (.bool gone) ∧ w'.cell? ⟨g, 8, none⟩ = some (.int .i64 ttl) ∧ w'.cell? ⟨gi, 0, none⟩ = some (.int .i64 a)) := fun w' hc => ⟨(ga.keep hc (by simp)).cell 0, (ga.keep hc (by simp)).cell 1, (ga.keep hc (by simp)).cell 2, (ga.keep hc (by simp)).cell 3, (ga.keep hc (by simp)).cell 4, (ga.keep hc (by simp)).cell 5, (ga.keep hc (by simp)).cell 6, (ga.keep hc (by simp)).cell 7, (ga.keep hc (by simp)).cell 8, (ai.keep hc (by simp)).cell 0⟩
      obtain ⟨s, hs⟩ : ∃ s, Hid (isR ⟨ro, rq, key, m, c', vo, val, gone, ttl⟩ = s) := ⟨_, rfl⟩
      rw [hs.out] at HYes HNo
      cases s
      · have HN := Lib.hid (HNo.out (by simp))
        clear HNo HYes
        refine wp_region_held_drew (S := fun w' => w'.cell? ⟨g, 0, none⟩ = some (.int .i64 ro) ∧ w'.cell? ⟨g, 1, none⟩ = some (.int .i64 rq) ∧ w'.cell? ⟨g, 2, none⟩ = some (.string ⟨key.toArray⟩) ∧ w'.cell? ⟨g, 3, none⟩ = some (.int .i64 m) ∧ w'.cell? ⟨g, 4, none⟩ = some (.int .i64 c') ∧ w'.cell? ⟨g, 5, none⟩ = some (.int .i64 vo) ∧ w'.cell? ⟨g, 6, none⟩ = some (.slice A' val.length cp) ∧ w'.cell? ⟨g, 7, none⟩ = some (.bool gone) ∧ w'.cell? ⟨g, 8, none⟩ = some (.int .i64 ttl) ∧ w'.cell? ⟨gi, 0, none⟩ = some (.int .i64 a)) (by kernel_rfl) ?_ (fun hHeld => ?_)
        · exact KK.out _ ((Chg.refl [] wb).drewN 1)
        refine takeW (i := 0) (d := (some 26)) (v := ?_) rfl rfl (by kernel_rfl) (by kernel_rfl) (by kernel_rfl) (fun _ _ _ h => h) (by rfl) ?_ (by assumption) ?_
        rotate_left
        · intro w' hSw; (try dsimp only at hSw); go_simp; try with_reducible rfl
        try simp only [Act.put, List.setIfInBounds_toArray, List.set_cons_zero, List.set_cons_succ]
        refine wpAnyH_ready (rs := [1]) (by kernel_rfl) (by simp) ?_
        refine AllReadyH.cons rfl (fun K hK => ?_) AllReadyH.nil
        go_simp
        go_at_call 38
        (with_reducible refine (recIs_to _ ro rq key m c' vo A' val cp gone ttl _ hs.out).mono ?_)
        rintro e w3 ⟨rfl, hch3⟩
        have hch23 : Hid (Chg [] wb w3) := ((by repeat' (first | (with_reducible assumption) | (with_reducible exact Chg.refl _ _) | (with_reducible refine Chg.alloc ?_ _) | (with_reducible refine Chg.drewN ?_ _) | (with_reducible refine Chg.drew ?_) | (with_reducible refine Chg.strW ?_ _ _) | (with_reducible refine Chg.t0 ?_ (by with_reducible assumption)))) : Chg [] wb w3)
        go_wp2_with (fail)
        refine hK.out _ _ ?_ (fun hHeld => ?_)
        · first | exact KK.out _ hch23.out | (dsimp only; exact KK.out _ hch23.out)
        clear hK K
        try simp only [Act.put, List.setIfInBounds_toArray, List.set_cons_zero, List.set_cons_succ]
        refine takeW (i := 2) (d := (some 28)) (v := ?_) rfl rfl (by kernel_rfl) (by kernel_rfl) (by kernel_rfl) (fun _ _ _ h => h) (by rfl) ?_ (by assumption) ?_
        rotate_left
        · intro w' hSw; (try dsimp only at hSw); go_simp; try with_reducible rfl
        try simp only [Act.put, List.setIfInBounds_toArray, List.set_cons_zero, List.set_cons_succ]
        refine takeW (i := 3) (d := (some 29)) (v := ?_) rfl rfl (by kernel_rfl) (by kernel_rfl) (by kernel_rfl) (fun _ _ _ h => h) (by rfl) ?_ (by assumption) ?_
        rotate_left
        · intro w' hSw; (try dsimp only at hSw); go_simp; try with_reducible rfl
        try simp only [Act.put, List.setIfInBounds_toArray, List.set_cons_zero, List.set_cons_succ]
        refine takeU (i := 4) (d := (some 30)) rfl rfl (by kernel_rfl) (by kernel_rfl) (by kernel_rfl) (fun _ _ _ h => h) (by rfl) (by assumption) ?_
        try simp only [Act.put, List.setIfInBounds_toArray, List.set_cons_zero, List.set_cons_succ]
        refine takeU (i := 5) (d := (some 31)) rfl rfl (by kernel_rfl) (by kernel_rfl) (by kernel_rfl) (fun _ _ _ h => h) (by rfl) (by assumption) ?_
        try simp only [Act.put, List.setIfInBounds_toArray, List.set_cons_zero, List.set_cons_succ]
        refine takeU (i := 6) (d := (some 32)) rfl rfl (by kernel_rfl) (by kernel_rfl) (by kernel_rfl) (fun _ _ _ h => h) (by rfl) (by assumption) ?_
        try simp only [Act.put, List.setIfInBounds_toArray, List.set_cons_zero, List.set_cons_succ]
        refine takeU (i := 7) (d := (some 33)) rfl rfl (by kernel_rfl) (by kernel_rfl) (by kernel_rfl) (fun _ _ _ h => h) (by rfl) (by assumption) ?_
        try simp only [Act.put, List.setIfInBounds_toArray, List.set_cons_zero, List.set_cons_succ]
        refine takeU (i := 8) (d := (some 34)) rfl rfl (by kernel_rfl) (by kernel_rfl) (by kernel_rfl) (fun _ _ _ h => h) (by rfl) (by assumption) ?_
        try simp only [Act.put, List.setIfInBounds_toArray, List.set_cons_zero, List.set_cons_succ]
        refine takeU (i := 9) (d := (some 35)) rfl rfl (by kernel_rfl) (by kernel_rfl) (by kernel_rfl) (fun _ _ _ h => h) (by rfl) (by assumption) ?_
        try simp only [Act.put, List.setIfInBounds_toArray, List.set_cons_zero, List.set_cons_succ]
        refine takeU (i := 10) (d := (some 36)) rfl rfl (by kernel_rfl) (by kernel_rfl) (by kernel_rfl) (fun _ _ _ h => h) (by rfl) (by assumption) ?_
        try simp only [Act.put, List.setIfInBounds_toArray, List.set_cons_zero, List.set_cons_succ]
        refine takeW (i := 11) (d := (some 37)) (v := ?_) rfl rfl (by kernel_rfl) (by kernel_rfl) (by kernel_rfl) (fun _ _ _ h => h) (by rfl) ?_ (by assumption) ?_
        rotate_left
        · intro w' hSw; (try dsimp only at hSw); go_simp; try with_reducible rfl
        try simp only [Act.put, List.setIfInBounds_toArray, List.set_cons_zero, List.set_cons_succ]
        refine wpAnyH_done (by kernel_rfl) ?_ _
        go_wp2_with (fail)
        go_ret2
        exact SendPost.no HN.out (ai.keep hch23.out (by simp)) (hcb.trans hch23.out (by simp))
      by_cases hoa : ro = a
      rotate_left
      · have hob : (ro != a) = true := by rw [bne_iff_ne]; exact hoa
        have HN := Lib.hid (HNo.out (fun h => hoa h.2))
        clear HNo HYes hoa
        refine wp_region_held_drew (S := fun w' => w'.cell? ⟨g, 0, none⟩ = some (.int .i64 ro) ∧ w'.cell? ⟨g, 1, none⟩ = some (.int .i64 rq) ∧ w'.cell? ⟨g, 2, none⟩ = some (.string ⟨key.toArray⟩) ∧ w'.cell? ⟨g, 3, none⟩ = some (.int .i64 m) ∧ w'.cell? ⟨g, 4, none⟩ = some (.int .i64 c') ∧ w'.cell? ⟨g, 5, none⟩ = some (.int .i64 vo) ∧ w'.cell? ⟨g, 6, none⟩ = some (.slice A' val.length cp) ∧ w'.cell? ⟨g, 7, none⟩ = some (.bool gone) ∧ w'.cell? ⟨g, 8, none⟩ = some (.int .i64 ttl) ∧ w'.cell? ⟨gi, 0, none⟩ = some (.int .i64 a)) (by kernel_rfl) ?_ (fun hHeld => ?_)
        · exact KK.out _ ((Chg.refl [] wb).drewN 1)
        refine takeW (i := 0) (d := (some 26)) (v := ?_) rfl rfl (by kernel_rfl) (by kernel_rfl) (by kernel_rfl) (fun _ _ _ h => h) (by rfl) ?_ (by assumption) ?_
        rotate_left
        · intro w' hSw; (try dsimp only at hSw); go_simp; try with_reducible rfl
        try simp only [Act.put, List.setIfInBounds_toArray, List.set_cons_zero, List.set_cons_succ]
        refine wpAnyH_ready (rs := [1]) (by kernel_rfl) (by simp) ?_
        refine AllReadyH.cons rfl (fun K hK => ?_) AllReadyH.nil
        go_simp
        go_at_call 38
        (with_reducible refine (recIs_to _ ro rq key m c' vo A' val cp gone ttl _ hs.out).mono ?_)
        rintro e w3 ⟨rfl, hch3⟩
        have hch23 : Hid (Chg [] wb w3) := ((by repeat' (first | (with_reducible assumption) | (with_reducible exact Chg.refl _ _) | (with_reducible refine Chg.alloc ?_ _) | (with_reducible refine Chg.drewN ?_ _) | (with_reducible refine Chg.drew ?_) | (with_reducible refine Chg.strW ?_ _ _) | (with_reducible refine Chg.t0 ?_ (by with_reducible assumption)))) : Chg [] wb w3)
        go_wp2_with (fail)
        refine hK.out _ _ ?_ (fun hHeld => ?_)
        · first | exact KK.out _ hch23.out | (dsimp only; exact KK.out _ hch23.out)
        clear hK K
        try simp only [Act.put, List.setIfInBounds_toArray, List.set_cons_zero, List.set_cons_succ]
        refine takeW (i := 2) (d := (some 28)) (v := ?_) rfl rfl (by kernel_rfl) (by kernel_rfl) (by kernel_rfl) (fun _ _ _ h => h) (by rfl) ?_ (by assumption) ?_
        rotate_left
        · intro w' hSw; (try dsimp only at hSw); go_simp; try with_reducible rfl
        try simp only [Act.put, List.setIfInBounds_toArray, List.set_cons_zero, List.set_cons_succ]
        refine takeW (i := 3) (d := (some 29)) (v := ?_) rfl rfl (by kernel_rfl) (by kernel_rfl) (by kernel_rfl) (fun _ _ _ h => h) (by rfl) ?_ (by assumption) ?_
        rotate_left
        · intro w' hSw; (try dsimp only at hSw); go_simp; try with_reducible rfl
        try simp only [Act.put, List.setIfInBounds_toArray, List.set_cons_zero, List.set_cons_succ]
        refine takeW (i := 4) (d := (some 30)) (v := ?_) rfl rfl (by kernel_rfl) (by kernel_rfl) (by kernel_rfl) (fun _ _ _ h => h) (by rfl) ?_ (by assumption) ?_
        rotate_left
        · intro w' hSw; (try dsimp only at hSw); go_simp; try with_reducible rfl
        try simp only [Act.put, List.setIfInBounds_toArray, List.set_cons_zero, List.set_cons_succ]
        refine takeW (i := 5) (d := (some 31)) (v := ?_) rfl rfl (by kernel_rfl) (by kernel_rfl) (by kernel_rfl) (fun _ _ _ h => h) (by rfl) ?_ (by assumption) ?_
        rotate_left
        · intro w' hSw; (try dsimp only at hSw); go_simp; try with_reducible rfl
        try simp only [Act.put, List.setIfInBounds_toArray, List.set_cons_zero, List.set_cons_succ]
        refine takeW (i := 6) (d := (some 32)) (v := ?_) rfl rfl (by kernel_rfl) (by kernel_rfl) (by kernel_rfl) (fun _ _ _ h => h) (by rfl) ?_ (by assumption) ?_
        rotate_left
        · intro w' hSw; (try dsimp only at hSw); go_simp; try with_reducible rfl
        try simp only [Act.put, List.setIfInBounds_toArray, List.set_cons_zero, List.set_cons_succ]
        refine takeW (i := 7) (d := (some 33)) (v := ?_) rfl rfl (by kernel_rfl) (by kernel_rfl) (by kernel_rfl) (fun _ _ _ h => h) (by rfl) ?_ (by assumption) ?_
        rotate_left
        · intro w' hSw; (try dsimp only at hSw); go_simp; try with_reducible rfl
        try simp only [Act.put, List.setIfInBounds_toArray, List.set_cons_zero, List.set_cons_succ]
        refine takeW (i := 8) (d := (some 34)) (v := ?_) rfl rfl (by kernel_rfl) (by kernel_rfl) (by kernel_rfl) (fun _ _ _ h => h) (by rfl) ?_ (by assumption) ?_
        rotate_left
        · intro w' hSw; (try dsimp only at hSw); go_simp; try with_reducible rfl
        try simp only [Act.put, List.setIfInBounds_toArray, List.set_cons_zero, List.set_cons_succ]
        refine takeW (i := 9) (d := (some 35)) (v := ?_) rfl rfl (by kernel_rfl) (by kernel_rfl) (by kernel_rfl) (fun _ _ _ h => h) (by rfl) ?_ (by assumption) ?_
        rotate_left
        · intro w' hSw; (try dsimp only at hSw); go_simp; try with_reducible rfl
        try simp only [Act.put, List.setIfInBounds_toArray, List.set_cons_zero, List.set_cons_succ]
        refine takeW (i := 10) (d := (some 36)) (v := ?_) rfl rfl (by kernel_rfl) (by kernel_rfl) (by kernel_rfl) (fun _ _ _ h => h) (by rfl) ?_ (by assumption) ?_
        rotate_left
        · intro w' hSw; (try dsimp only at hSw); go_simp; try with_reducible rfl
        try simp only [Act.put, List.setIfInBounds_toArray, List.set_cons_zero, List.set_cons_succ]
        refine takeW (i := 11) (d := (some 37)) (v := ?_) rfl rfl (by kernel_rfl) (by kernel_rfl) (by kernel_rfl) (fun _ _ _ h => h) (by rfl) ?_ (by assumption) ?_
        rotate_left
        · intro w' hSw; (try dsimp only at hSw); go_simp; try with_reducible rfl
        try simp only [Act.put, List.setIfInBounds_toArray, List.set_cons_zero, List.set_cons_succ]
        refine wpAnyH_done (by kernel_rfl) ?_ _
        go_wp2_with (fail)
        go_ret2
        exact SendPost.no HN.out (ai.keep hch23.out (by simp)) (hcb.trans hch23.out (by simp))
      have hob : (ro != a) = false := by rw [hoa]; simp
      have HY := Lib.hid (HYes.out rfl hoa)
      clear HNo HYes hoa
      refine wp_region_held_drew (S := fun w' => w'.cell? ⟨g, 0, none⟩ = some (.int .i64 ro) ∧ w'.cell? ⟨g, 1, none⟩ = some (.int .i64 rq) ∧ w'.cell? ⟨g, 2, none⟩ = some (.string ⟨key.toArray⟩) ∧ w'.cell? ⟨g, 3, none⟩ = some (.int .i64 m) ∧ w'.cell? ⟨g, 4, none⟩ = some (.int .i64 c') ∧ w'.cell? ⟨g, 5, none⟩ = some (.int .i64 vo) ∧ w'.cell? ⟨g, 6, none⟩ = some (.slice A' val.length cp) ∧ w'.cell? ⟨g, 7, none⟩ = some (.bool gone) ∧ w'.cell? ⟨g, 8, none⟩ = some (.int .i64 ttl) ∧ w'.cell? ⟨gi, 0, none⟩ = some (.int .i64 a)) (by kernel_rfl) ?_ (fun hHeld => ?_)
      · exact KK.out _ ((Chg.refl [] wb).drewN 1)
      refine takeW (i := 0) (d := (some 26)) (v := ?_) rfl rfl (by kernel_rfl) (by kernel_rfl) (by kernel_rfl) (fun _ _ _ h => h) (by rfl) ?_ (by assumption) ?_
      rotate_left
      · intro w' hSw; (try dsimp only at hSw); go_simp; try with_reducible rfl
      try simp only [Act.put, List.setIfInBounds_toArray, List.set_cons_zero, List.set_cons_succ]
      refine wpAnyH_ready (rs := [1]) (by kernel_rfl) (by simp) ?_
      refine AllReadyH.cons rfl (fun K hK => ?_) AllReadyH.nil
      go_simp
      go_at_call 38
      (with_reducible refine (recIs_to _ ro rq key m c' vo A' val cp gone ttl _ hs.out).mono ?_)
      rintro e w3 ⟨rfl, hch3⟩
      have hch23 : Hid (Chg [] wb w3) := ((by repeat' (first | (with_reducible assumption) | (with_reducible exact Chg.refl _ _) | (with_reducible refine Chg.alloc ?_ _) | (with_reducible refine Chg.drewN ?_ _) | (with_reducible refine Chg.drew ?_) | (with_reducible refine Chg.strW ?_ _ _) | (with_reducible refine Chg.t0 ?_ (by with_reducible assumption)))) : Chg [] wb w3)
      go_wp2_with (fail)
      refine hK.out _ _ ?_ (fun hHeld => ?_)
      · first | exact KK.out _ hch23.out | (dsimp only; exact KK.out _ hch23.out)
      clear hK K
      try simp only [Act.put, List.setIfInBounds_toArray, List.set_cons_zero, List.set_cons_succ]
      refine takeW (i := 2) (d := (some 28)) (v := ?_) rfl rfl (by kernel_rfl) (by kernel_rfl) (by kernel_rfl) (fun _ _ _ h => h) (by rfl) ?_ (by assumption) ?_
      rotate_left
      · intro w' hSw; (try dsimp only at hSw); go_simp; try with_reducible rfl
      try simp only [Act.put, List.setIfInBounds_toArray, List.set_cons_zero, List.set_cons_succ]
      refine takeW (i := 3) (d := (some 29)) (v := ?_) rfl rfl (by kernel_rfl) (by kernel_rfl) (by kernel_rfl) (fun _ _ _ h => h) (by rfl) ?_ (by assumption) ?_
      rotate_left
      · intro w' hSw; (try dsimp only at hSw); go_simp; try with_reducible rfl
      try simp only [Act.put, List.setIfInBounds_toArray, List.set_cons_zero, List.set_cons_succ]
      refine takeW (i := 4) (d := (some 30)) (v := ?_) rfl rfl (by kernel_rfl) (by kernel_rfl) (by kernel_rfl) (fun _ _ _ h => h) (by rfl) ?_ (by assumption) ?_
      rotate_left
      · intro w' hSw; (try dsimp only at hSw); go_simp; try with_reducible rfl
      try simp only [Act.put, List.setIfInBounds_toArray, List.set_cons_zero, List.set_cons_succ]
      refine takeW (i := 5) (d := (some 31)) (v := ?_) rfl rfl (by kernel_rfl) (by kernel_rfl) (by kernel_rfl) (fun _ _ _ h => h) (by rfl) ?_ (by assumption) ?_
      rotate_left
      · intro w' hSw; (try dsimp only at hSw); go_simp; try with_reducible rfl
      try simp only [Act.put, List.setIfInBounds_toArray, List.set_cons_zero, List.set_cons_succ]
      refine takeW (i := 6) (d := (some 32)) (v := ?_) rfl rfl (by kernel_rfl) (by kernel_rfl) (by kernel_rfl) (fun _ _ _ h => h) (by rfl) ?_ (by assumption) ?_
      rotate_left
      · intro w' hSw; (try dsimp only at hSw); go_simp; try with_reducible rfl
      try simp only [Act.put, List.setIfInBounds_toArray, List.set_cons_zero, List.set_cons_succ]
      refine takeW (i := 7) (d := (some 33)) (v := ?_) rfl rfl (by kernel_rfl) (by kernel_rfl) (by kernel_rfl) (fun _ _ _ h => h) (by rfl) ?_ (by assumption) ?_
      rotate_left
      · intro w' hSw; (try dsimp only at hSw); go_simp; try with_reducible rfl
      try simp only [Act.put, List.setIfInBounds_toArray, List.set_cons_zero, List.set_cons_succ]
      refine takeW (i := 8) (d := (some 34)) (v := ?_) rfl rfl (by kernel_rfl) (by kernel_rfl) (by kernel_rfl) (fun _ _ _ h => h) (by rfl) ?_ (by assumption) ?_
      rotate_left
      · intro w' hSw; (try dsimp only at hSw); go_simp; try with_reducible rfl
      try simp only [Act.put, List.setIfInBounds_toArray, List.set_cons_zero, List.set_cons_succ]
      refine takeW (i := 9) (d := (some 35)) (v := ?_) rfl rfl (by kernel_rfl) (by kernel_rfl) (by kernel_rfl) (fun _ _ _ h => h) (by rfl) ?_ (by assumption) ?_
      rotate_left
      · intro w' hSw; (try dsimp only at hSw); go_simp; try with_reducible rfl
      try simp only [Act.put, List.setIfInBounds_toArray, List.set_cons_zero, List.set_cons_succ]
      refine takeW (i := 10) (d := (some 36)) (v := ?_) rfl rfl (by kernel_rfl) (by kernel_rfl) (by kernel_rfl) (fun _ _ _ h => h) (by rfl) ?_ (by assumption) ?_
      rotate_left
      · intro w' hSw; (try dsimp only at hSw); go_simp; try with_reducible rfl
      try simp only [Act.put, List.setIfInBounds_toArray, List.set_cons_zero, List.set_cons_succ]
      refine takeW (i := 11) (d := (some 37)) (v := ?_) rfl rfl (by kernel_rfl) (by kernel_rfl) (by kernel_rfl) (fun _ _ _ h => h) (by rfl) ?_ (by assumption) ?_
      rotate_left
      · intro w' hSw; (try dsimp only at hSw); go_simp; try with_reducible rfl
      try simp only [Act.put, List.setIfInBounds_toArray, List.set_cons_zero, List.set_cons_succ]
      refine wpAnyH_done (by kernel_rfl) ?_ _
      go_wp2_with (fail)
      go_roundw
      case rel => exact ⟨k + 1, by omega, by go_num, HY.out, ai.keep hch23.out (by simp), hcb.trans hch23.out (by simp)⟩
      case measure => simp [intOf]; omega
    · obtain rfl : k = ls.length := by omega
      have HOK : Hid (okL a (ls.map RcV.r) = true) := okL_iff.2 fun r hr => by
        obtain ⟨x, hx, rfl⟩ := List.mem_map.1 hr
        obtain ⟨j, hj, rfl⟩ := List.getElem_of_mem hx
        exact HI.out j hj hj
      have hpos : 0 < ls.length := by omega
      have HQ : Hid (1 ≤ ls[0].r.q ∧ ls[0].r.q ≤ 1099511627776) := by
        have := isR_iff.1 (HI.out 0 hpos hpos).1
        exact ⟨this.q1, this.q2⟩
      by_cases h8 : 8 < ls.length
      · have HE := Lib.hid (sendO_long (o := ⟨a, b, kk, nn, tt⟩) HOK.out (by simpa using h8))
        go_wp2_with (fail)
        go_ret2
        exact SendPost.no (n := 4) HE.out HI0.out hch
      obtain ⟨ad, rfl, had, -, hc⟩ := (HR.out.keep0 hch).getR hpos
      have hf := hc 1 _ (by omega) rfl
      rw [Nat.zero_mul, add_zero] at hf
      have hz0 : (0 : Int) < (ls.length : Int) := by omega
      have HG : Hid (∀ (i : Nat) (hi : i < ls.length), ls[i].r.q ≠ ls[0].r.q + i → sendO ⟨a, b, kk, nn, tt⟩ (ls.map RcV.r) = ([], 11 + 1, ⟨a, b, kk, nn, tt⟩)) := fun i hi h => sendO_gap (o := ⟨a, b, kk, nn, tt⟩) HOK.out (by simpa using h8) (by simpa using hpos) (i := i) (by simpa using hi) (by simpa using h)
      have HF0 : Hid ((∀ i (h : i < ls.length), ls[i].r.q = ls[0].r.q + i) → (ls[0].r.q ≤ kk ∨ nn + 1 < ls[0].r.q) → sendO ⟨a, b, kk, nn, tt⟩ (ls.map RcV.r) = ([], 11 + 1, ⟨a, b, kk, nn, tt⟩)) := fun h hb => sendO_off (o := ⟨a, b, kk, nn, tt⟩) HOK.out (by simpa using h8) (by simpa using hpos) (fun i hi => by simpa using h i (by simpa using hi)) (by simpa using hb)
      have HYY : Hid ((∀ i (h : i < ls.length), ls[i].r.q = ls[0].r.q + i) → ¬ ls[0].r.q ≤ kk → ¬ nn + 1 < ls[0].r.q → sendO ⟨a, b, kk, nn, tt⟩ (ls.map RcV.r) = (encF (bodyW ⟨1, a, ls[0].r.q, 0, 0, 0, 0, ls.map RcV.r⟩), 0, ⟨a, b, kk, max nn (ls[0].r.q + ls.length - 1), 0⟩)) := fun h h1 h2 => by
        have := sendO_yes (o := ⟨a, b, kk, nn, tt⟩) (f := ls[0].r.q) HOK.out (by simpa using h8) (by simpa using hpos) (fun i hi => by simpa using h i (by simpa using hi)) h1 h2
        rwa [List.length_map] at this
      have HWW : Hid ((∀ i (h : i < ls.length), ls[i].r.q = ls[0].r.q + i) → isW ⟨1, a, ls[0].r.q, 0, 0, 0, 0, ls.map RcV.r⟩ = true) := fun h => isW_send a0 a5 HOK.out (by simpa using h8) (by simpa using hpos) (fun i hi => by simpa using h i (by simpa using hi))
      have hf' : ((RcV.cells ls[0])[1]?) = some (.int .i64 ls[0].r.q) := rfl
      obtain ⟨q1, q2⟩ := HQ.out
      have hl8 : ls.length ≤ 8 := by omega
      have HF1 := Lib.hid (rfl : ls[0].r.q = ls[0].r.q)
      generalize hq0 : ls[0].r.q = q0 at *
      have HQ0 := Lib.hid hq0
      clear HI hc hf' HQ HF1 hq0 h8 HOK
      go_wp2_with (fail)
      go_loopw [48] (fun i wr => ∃ k : Nat, k ≤ ls.length ∧ i = .int .i64 k ∧ Hid (∀ j (h : j < ls.length), j < k → ls[j].r.q = q0 + j) ∧ Hid (At wr gi 95 (OSt.cells ⟨a, b, kk, nn, tt⟩)) ∧ Chg [] w wr) (fun i _ => ls.length - (intOf i).toNat)
      case atStart => exact ⟨0, Nat.zero_le _, rfl, (by intro j h hj; omega), HI0, hch⟩
      case round =>
        clear hch HI0 hf
        obtain ⟨k, hk, rfl, HI, HI0, hch⟩ := hrel
        by_cases hlt : k < ls.length
        · obtain ⟨ad', he', had', hc0, hc⟩ := (HR.out.keep0 hch).getR hlt
          obtain rfl : ad = ad' := by injection he'
          have HNo := Lib.hid (HG.out k hlt)
          have HYes : Hid (ls[k].r.q = q0 + k → ∀ j (h : j < ls.length), j < k + 1 → ls[j].r.q = q0 + j) := fun h1 j h hj => by
            by_cases e : j = k
            · subst e; exact h1
            · exact HI.out j h (by omega)
          have hc1 := hc 1 _ (by omega) rfl
          have hc2 := hc 2 _ (by omega) rfl
          have hc3 := hc 3 _ (by omega) rfl
          have hc4 := hc 4 _ (by omega) rfl
          have hc5 := hc 5 _ (by omega) rfl
          have hc6 := hc 6 _ (by omega) rfl
          have hc7 := hc 7 _ (by omega) rfl
          have hc8 := hc 8 _ (by omega) rfl
          generalize ls[k] = r at *
          clear hc HI
          obtain ⟨⟨ro, rq, key, m, c', vo, val, gone, ttl⟩, A', cp⟩ := r
          simp only at hc0 hc1 hc2 hc3 hc4 hc5 hc6 hc7 hc8 HYes HNo
          have hki : (k : Int) < (ls.length : Int) := by omega
          have hk8 : (k : Int) ≤ 8 := by omega
          by_cases hq : rq = q0 + (k : Int)
          · have hqb : (rq != q0 + (k : Int)) = false := by rw [hq]; simp
            have HY := Lib.hid (HYes.out hq)
            clear HNo HYes hq
            go_wp2_with (fail)
            go_roundw
            case rel => exact ⟨k + 1, by omega, by go_num, HY.out, HI0.out.al _, hch.alloc _⟩
            case measure => simp [intOf]; omega
          · have hqb : (rq != q0 + (k : Int)) = true := by rw [bne_iff_ne]; exact hq
            have HN := Lib.hid (HNo.out hq)
            clear HNo HYes hq
            go_wp2_with (fail)
            go_ret2
            exact SendPost.no (n := 11) HN.out (HI0.out.al _) (hch.alloc _)
        · obtain rfl : k = ls.length := by omega
          have HI' : Hid (∀ i (h : i < ls.length), ls[i].r.q = q0 + i) := fun i h => HI.out i h h
          obtain ⟨c0, c1, c2, c3, c4⟩ := HI0.out.o5
          have f3 := HI0.out.free 3
          have f4 := HI0.out.free 4
          simp only at c0 c1 c2 c3 c4
          have HF := Lib.hid (HF0.out HI'.out)
          have HYZ := Lib.hid (HYY.out HI'.out)
          have HWZ := Lib.hid (HWW.out HI'.out)
          clear HF0 HYY HWW HG HI HI'
          by_cases h1 : q0 ≤ kk
          · have HN := Lib.hid (HF.out (by omega))
            go_wp2_with (fail)
            go_ret2
            exact SendPost.no (n := 11) HN.out HI0.out hch
          by_cases h2 : nn + 1 < q0
          · have HN := Lib.hid (HF.out (by omega))
            go_wp2_with (fail)
            go_ret2
            exact SendPost.no (n := 11) HN.out HI0.out hch
          have HE := Lib.hid (HYZ.out (by omega) (by omega))
          clear HF HYZ
          go_wp2_with (fail)
          refine (wEncode_any wr 1 a q0 0 0 0 0 (some ad) _ c ls rfl (HR.out.keep0 hch) (fun x hx => (HRS.out x hx).keep0 hch) (by omega)).mono ?_
          rintro e w2 ⟨A2, c2', rfl, hnb⟩
          rw [encW_yes HWZ.out] at hnb ⊢
          simp only at hnb ⊢
          have r2 := hnb.1
          have hch2 := hnb.2.2.2.1
          have hnw := Lib.hid hnb.2.2.1
          have hcp := Lib.hid hnb.2.1
          obtain ⟨E, hE⟩ : ∃ E, Hid (encF (bodyW ⟨1, a, q0, 0, 0, 0, 0, ls.map RcV.r⟩) = E) := ⟨_, rfl⟩
          rw [hE.out] at r2 HE hnw hcp ⊢
          have HI2 := HI0.out.keep hch2 (by simp)
          have hc2 := hch.trans hch2 (by simp)
          have hgir : gi < wr.heap.size := HI0.out.lt
          have hswr : w.heap.size ≤ wr.heap.size := hch.size
          have hsw2 : wr.heap.size ≤ w2.heap.size := hch2.size
          have HNW : Hid (∀ x ∈ ([⟨a, b, E, A2, c2'⟩] : List MgV), 0 < x.d.length → ∀ k, k ∈ blk x.A → w.heap.size ≤ k) := fun x hx h0 k hk => by
            obtain rfl := List.mem_singleton.1 hx
            have := (hnw.out h0 k hk).1
            omega
          have HCP : Hid (∀ x ∈ ([⟨a, b, E, A2, c2'⟩] : List MgV), x.d.length ≤ x.cp) := fun x hx => by
            obtain rfl := List.mem_singleton.1 hx
            exact hcp.out
          clear hnb hE HWZ c0 c1 c2 c3 c4 f3 f4 HI0
          obtain ⟨c0, c1, c2, c3, c4⟩ := HI2.o5
          have f3 := HI2.free 3
          have f4 := HI2.free 4
          simp only at c0 c1 c2 c3 c4
          go_wp2_with (fail)
          have HI3 := Lib.hid (OSt.setN HI2 (max nn (q0 + (ls.length : Int) - 1)) 0)
          have q3 : Chg [gi] w2 ((w2.setCell ⟨gi, 3, none⟩ (.int .i64 (max nn (q0 + (ls.length : Int) - 1)))).setCell ⟨gi, 4, none⟩ (.int .i64 0)) := ((Chg.refl _ _).setCell (.inl (by simp)) _).setCell (.inl (by simp)) _
          have r3 := Lib.hid (r2.keep q3 (fun h0 k hk hm => by
            have := hnw.out h0 k hk
            simp at hm
            omega))
          have hc3 : Chg [gi] w _ := (hc2.mono (by simp)).trans q3 (by simp)
          clear c0 c1 c2 c3 c4 f3 f4 HI2 hc2 q3 r2 hch2
          have hsz3 : w2.heap.size ≤ ((w2.setCell ⟨gi, 3, none⟩ (.int .i64 (max nn (q0 + (ls.length : Int) - 1)))).setCell ⟨gi, 4, none⟩ (.int .i64 0)).heap.size := by simp [World.setCell]
          generalize (w2.setCell ⟨gi, 3, none⟩ (.int .i64 (max nn (q0 + (ls.length : Int) - 1)))).setCell ⟨gi, 4, none⟩ (.int .i64 0) = w3 at *
          obtain ⟨c0, c1, c2, c3, c4⟩ := HI3.out.o5
          simp only at c0 c1 c2 c3 c4
          go_region_held3 (fun w' => w'.cell? ⟨gi, 0, none⟩ = some (.int .i64 a) ∧ w'.cell? ⟨gi, 1, none⟩ = some (.int .i64 b)) (first | go_keep | fail) (fail)
          all_goals
            go_wp2_with (fail)
            have q4 : Hid (Chg [] w3 (w3.alloc (.cells #[.int .i64 a, .int .i64 b, .slice A2 E.length c2'] 63)).drew) := ((Chg.refl [] w3).alloc _).drew
            have rm : Hid (Rd (w3.alloc (.cells #[.int .i64 a, .int .i64 b, .slice A2 E.length c2'] 63)).drew 3 (some ⟨w3.heap.size, 0, none⟩) 1 (cMg [⟨a, b, E, A2, c2'⟩])) := (Rd.new' rfl rfl rfl : Rd (w3.alloc (.cells #[.int .i64 a, .int .i64 b, .slice A2 E.length c2'] 63)) 3 (some ⟨w3.heap.size, 0, none⟩) 1 (cMg [⟨a, b, E, A2, c2'⟩])).keep0 ((Chg.refl [] _).drew)
            go_ret2
            rw [HE.out]
            refine ⟨some ⟨w3.heap.size, 0, none⟩, 1, [⟨a, b, E, A2, c2'⟩], rfl, ⟨rfl, rm.out, fun x hx => ?_⟩, ⟨fun k hk => by simp [blk] at hk; omega, HNW.out, HCP.out⟩, HI3.out.keep q4.out (by simp), hc3.trans q4.out (by simp)⟩
            obtain rfl := List.mem_singleton.1 hx
            exact r3.out.keep0 q4.out
end Go.Proofs.Ytdfkednggjelcaa
