
/-
  The reference's Out.
-/
import Derived.Test.YtdfkednggjelcaaStrR
import Derived.Test.YtdfkednggjelcaaStrS
import Derived.Deep.RegionHeld3
namespace Go.Proofs.Ytdfkednggjelcaa
open Go.RowKit
set_option linter.unusedVariables false
attribute [local go_sem ↓] run_min2 run_max2

set_option maxHeartbeats 1600000 in
theorem refNewOut_no (w : World) (a b q : Int) (h : isWayS a b q = false) :
    Calls Try.prog 29 #[.int .i64 a, .int .i64 b, .int .i64 q] w fun e w' => e = .returned (.tuple #[.pointer none, .int .i64 1]) ∧ w' = w := by
  obtain ⟨p, hp⟩ : ∃ p, Hid ((decide (0 ≤ a) && decide (a < 5)) = p) := ⟨_, rfl⟩
  obtain ⟨p', hp'⟩ : ∃ p, Hid ((decide (0 ≤ b) && decide (b < 5)) = p) := ⟨_, rfl⟩
  have HW : Hid ((p && p' && !decide (a = b) && decide (0 ≤ q) && decide (q ≤ 1099511627776)) = false) := by unfold Hid; rw [← h, isWayS, hp.out, hp'.out]
  clear h
  cases p
  · clear HW
    go_enter Try.func29, Try.ntmps29
    go_wp2_with (first | (go_at_call 37; (with_reducible refine (refPlace_to _ a _ hp.out).mono ?_); rintro e w1 ⟨rfl, rfl⟩) | (go_at_call 37; (with_reducible refine (refPlace_to _ b _ hp'.out).mono ?_); rintro e w1 ⟨rfl, rfl⟩))
    go_ret2
    exact ⟨rfl, rfl⟩
  cases p'
  · clear HW
    go_enter Try.func29, Try.ntmps29
    go_wp2_with (first | (go_at_call 37; (with_reducible refine (refPlace_to _ a _ hp.out).mono ?_); rintro e w1 ⟨rfl, rfl⟩) | (go_at_call 37; (with_reducible refine (refPlace_to _ b _ hp'.out).mono ?_); rintro e w1 ⟨rfl, rfl⟩))
    go_ret2
    exact ⟨rfl, rfl⟩
  by_cases hab : a = b
  · have hn : (a == b) = true := by rw [hab]; simp
    have HAB := Lib.hid hab
    clear hab HW
    go_enter Try.func29, Try.ntmps29
    go_wp2_with (first | (go_at_call 37; (with_reducible refine (refPlace_to _ a _ hp.out).mono ?_); rintro e w1 ⟨rfl, rfl⟩) | (go_at_call 37; (with_reducible refine (refPlace_to _ b _ hp'.out).mono ?_); rintro e w1 ⟨rfl, rfl⟩))
    go_ret2
    exact ⟨rfl, rfl⟩
  have hn : (a == b) = false := by rw [beq_eq_false_iff_ne]; exact hab
  by_cases h0 : q < 0
  · clear hab HW
    go_enter Try.func29, Try.ntmps29
    go_wp2_with (first | (go_at_call 37; (with_reducible refine (refPlace_to _ a _ hp.out).mono ?_); rintro e w1 ⟨rfl, rfl⟩) | (go_at_call 37; (with_reducible refine (refPlace_to _ b _ hp'.out).mono ?_); rintro e w1 ⟨rfl, rfl⟩))
    go_ret2
    exact ⟨rfl, rfl⟩
  by_cases h1 : 1099511627776 < q
  · clear hab HW
    go_enter Try.func29, Try.ntmps29
    go_wp2_with (first | (go_at_call 37; (with_reducible refine (refPlace_to _ a _ hp.out).mono ?_); rintro e w1 ⟨rfl, rfl⟩) | (go_at_call 37; (with_reducible refine (refPlace_to _ b _ hp'.out).mono ?_); rintro e w1 ⟨rfl, rfl⟩))
    go_ret2
    exact ⟨rfl, rfl⟩
  · exfalso
    have h2 := HW.out
    rw [decide_eq_false hab, decide_eq_true (show 0 ≤ q by omega), decide_eq_true (show q ≤ 1099511627776 by omega)] at h2
    cases h2
set_option maxHeartbeats 1600000 in
theorem refNewOut_yes (w : World) (a b q : Int) (h : isWayS a b q = true) :
    Calls Try.prog 29 #[.int .i64 a, .int .i64 b, .int .i64 q] w (NewP 78 (OSt.cells ⟨a, b, q, q, 0⟩) w) := by
  obtain ⟨a0, a5, b0, b5, hab, q0, q1⟩ := isWayS_iff.1 h
  have hp : Hid ((decide (0 ≤ a) && decide (a < 5)) = true) := by simp [Hid, a0, a5]
  have hp' : Hid ((decide (0 ≤ b) && decide (b < 5)) = true) := by simp [Hid, b0, b5]
  have hn : (a == b) = false := by rw [beq_eq_false_iff_ne]; exact hab
  have h0 : ¬ q < 0 := by omega
  have h1 : ¬ 1099511627776 < q := by omega
  have h0b := decide_eq_false h0
  have h1b := decide_eq_false h1
  clear h a0 a5 b0 b5 hab q0 q1
  go_enter Try.func29, Try.ntmps29
  go_wp2_with (first | (go_at_call 37; (with_reducible refine (refPlace_to _ a _ hp.out).mono ?_); rintro e w1 ⟨rfl, rfl⟩) | (go_at_call 37; (with_reducible refine (refPlace_to _ b _ hp'.out).mono ?_); rintro e w1 ⟨rfl, rfl⟩))
  go_ret2
  exact ⟨_, rfl, Nat.le_refl _, At.new _ _ _, (Chg.refl _ _).alloc _⟩


set_option maxHeartbeats 1600000 in
theorem refNeed_any (w : World) (g : Nat) (o : OSt) (h : At w g 78 o.cells) (ho : o.Ok) (last : Int) :
    Calls Try.prog 30 #[.pointer (some ⟨g, 0, none⟩), .int .i64 last] w fun e w' => e = .returned (.tuple #[.int .i64 (needO o last).1, .bool (needO o last).2]) ∧ Chg [] w w' := by
  obtain ⟨c0, c1, c2, c3, c4⟩ := h.o5
  obtain ⟨a, b, k, n, t⟩ := o
  obtain ⟨_, _, _, _, k0, kn, n1, t0, t1⟩ := ho
  simp only at c0 c1 c2 c3 c4 k0 kn n1 t0 t1
  clear h
  by_cases h1 : n < last
  · have HE : Hid (needO ⟨a, b, k, n, t⟩ last = (n + 1, true)) := by simp [Hid, needO, h1]
    go_enter Try.func30, Try.ntmps30
    go_wp2_with (fail)
    go_ret2
    exact ⟨by rw [HE.out]; rfl, Chg.refl _ _⟩
  by_cases h2 : k < last
  · by_cases h3 : 4 ≤ t
    · have HE : Hid (needO ⟨a, b, k, n, t⟩ last = (k + 1, true)) := by simp [Hid, needO, h1, h2, h3]
      go_enter Try.func30, Try.ntmps30
      go_wp2_with (fail)
      go_ret2
      exact ⟨by rw [HE.out]; rfl, Chg.refl _ _⟩
    · have HE : Hid (needO ⟨a, b, k, n, t⟩ last = (0, false)) := by simp [Hid, needO, h1, h3]
      go_enter Try.func30, Try.ntmps30
      go_wp2_with (fail)
      go_ret2
      exact ⟨by rw [HE.out]; rfl, Chg.refl _ _⟩
  · have HE : Hid (needO ⟨a, b, k, n, t⟩ last = (0, false)) := by simp [Hid, needO, h1, h2]
    go_enter Try.func30, Try.ntmps30
    go_wp2_with (fail)
    go_ret2
    exact ⟨by rw [HE.out]; rfl, Chg.refl _ _⟩

set_option maxHeartbeats 1600000 in
theorem refAck_any (w : World) (g : Nat) (o : OSt) (h : At w g 78 o.cells) (s : Int) :
    Calls Try.prog 31 #[.pointer (some ⟨g, 0, none⟩), .int .i64 s] w (AckPost g 78 w (ackO o s)) := by
  obtain ⟨c0, c1, c2, c3, c4⟩ := h.o5
  have f2 := h.free 2
  have f4 := h.free 4
  obtain ⟨a, b, k, n, t⟩ := o
  have H := Lib.hid h
  simp only at c0 c1 c2 c3 c4
  clear h
  by_cases h1 : s ≤ k
  · go_enter Try.func31, Try.ntmps31
    go_wp2_with (fail)
    go_ret
    have he : ackO ⟨a, b, k, n, t⟩ s = (false, ⟨a, b, k, n, t⟩) := by simp [ackO, h1]
    rw [he]
    exact ⟨rfl, H.out, Chg.refl _ _⟩
  by_cases h2 : n < s
  · go_enter Try.func31, Try.ntmps31
    go_wp2_with (fail)
    go_ret
    have he : ackO ⟨a, b, k, n, t⟩ s = (false, ⟨a, b, k, n, t⟩) := by simp [ackO, h2]
    rw [he]
    exact ⟨rfl, H.out, Chg.refl _ _⟩
  go_enter Try.func31, Try.ntmps31
  go_wp2_with (fail)
  go_ret
  have he : ackO ⟨a, b, k, n, t⟩ s = (true, ⟨a, b, s, n, 0⟩) := by simp [ackO, h1, h2]
  rw [he]
  exact ⟨rfl, OSt.setA H.out s 0, ((Chg.refl _ _).setCell (.inl (by simp)) _).setCell (.inl (by simp)) _⟩
set_option maxHeartbeats 1600000 in
theorem refTick_any (w : World) (g : Nat) (o : OSt) (h : At w g 78 o.cells) (ho : 0 ≤ o.t ∧ o.t ≤ 1099511627776) :
    Calls Try.prog 32 #[.pointer (some ⟨g, 0, none⟩)] w (TickPost g 78 w (tickO o)) := by
  obtain ⟨c0, c1, c2, c3, c4⟩ := h.o5
  have f4 := h.free 4
  obtain ⟨a, b, k, n, t⟩ := o
  have H := Lib.hid h
  obtain ⟨t0, t1⟩ := ho
  simp only at c0 c1 c2 c3 c4 t0 t1
  clear h
  by_cases h1 : k < n
  · go_enter Try.func32, Try.ntmps32
    go_wp2_with (fail)
    go_quiet (fail)
    go_wp2_with (fail)
    go_end0
    have he : tickO ⟨a, b, k, n, t⟩ = ⟨a, b, k, n, t + 1⟩ := by simp [tickO, h1]
    rw [he]
    refine ⟨rfl, OSt.setT (by first | exact H.out | exact H.out.drewN _ | exact H.out.keep ((Chg.refl [] _).drewN _) (by simp)) (t + 1), Chg.setCell (by first | exact Chg.refl _ _ | exact (Chg.refl _ _).drewN _) (.inl (by simp)) _⟩
  · have he : Hid (tickO ⟨a, b, k, n, t⟩ = ⟨a, b, k, n, t⟩) := by simp [Hid, tickO, h1]
    go_enter Try.func32, Try.ntmps32
    go_wp2_with (fail)
    go_quiet (fail)
    go_wp2_with (fail)
    go_end0
    rw [he.out]
    exact ⟨rfl, by first | exact H.out | exact H.out.keep ((Chg.refl [] _).drewN _) (by simp), by first | exact Chg.refl _ _ | exact (Chg.refl _ _).drewN _⟩
def RSendPost (g : Nat) (T : TypeId) (w : World) (a b : Int) (r : List UInt8 × Nat × OSt) (e : Ending) (w' : World) : Prop := ∃ A c ms, e = .returned (.tuple #[.slice A ms.length c, .int .i64 r.2.1]) ∧ MsgsAt w' A ms (sentM a b r) ∧ At w' g T r.2.2.cells ∧ Chg [g] w w'
theorem RSendPost.no {g : Nat} {T : TypeId} {w w' : World} {a b : Int} {o : OSt} {r : List UInt8 × Nat × OSt} {n : Nat} (h : r = ([], n + 1, o)) (ha : At w' g T o.cells) (hc : Chg [] w w') : RSendPost g T w a b r (.returned (.tuple #[.slice none 0 0, .int .i64 ((n + 1 : Nat) : Int)])) w' := by
  subst h
  exact ⟨none, 0, [], rfl, by unfold sentM; rw [if_neg (by simp)]; exact MsgsAt.nil _ _, ha, hc.mono (by simp)⟩

set_option linter.unusedSimpArgs false
set_option maxRecDepth 100000 in
set_option maxHeartbeats 64000000 in
theorem refSend_any (w : World) (gi : Nat) (o : OSt) (hin : At w gi 78 o.cells) (ho : o.Ok) (A : Option Addr) (n c : Nat) (ls : List RcV) (hn : ls.length = n) (hk : ∀ w', Chg [gi] w w' → Rd w' 9 A ls.length (cRc ls) ∧ ∀ x ∈ ls, Rd w' 1 x.A x.r.val.length (cB x.r.val)) (hls : ls.length ≤ 1000000) :
    Calls Try.prog 33 #[.pointer (some ⟨gi, 0, none⟩), .slice A n c] w (RSendPost gi 78 w o.a o.b (sendO o (ls.map RcV.r))) := by
  subst hn
  have HKK := Lib.hid hk
  have HR := Lib.hid (hk w (Chg.refl _ _)).1
  have HRS := Lib.hid (hk w (Chg.refl _ _)).2
  have hgi0 : gi < w.heap.size := hin.lt
  obtain ⟨a, b, kk, nn, tt⟩ := o
  obtain ⟨a0, a5, _, _, k0, kn, n1, _, _⟩ := ho
  simp only at a0 a5 k0 kn n1
  clear hk
  by_cases hz : ls.length = 0
  · have HE : Hid (sendO ⟨a, b, kk, nn, tt⟩ (ls.map RcV.r) = ([], 0 + 1, ⟨a, b, kk, nn, tt⟩)) := by
      rw [List.eq_nil_of_length_eq_zero hz]; rfl
    have hzb : ((ls.length : Int) == 0) = true := by rw [hz]; rfl
    have HZ := Lib.hid hz
    clear hz
    go_enter Try.func33, Try.ntmps33
    go_wp2_with (fail)
    go_ret2
    exact RSendPost.no HE.out hin (Chg.refl _ _)
  have hzb : ((ls.length : Int) == 0) = false := by rw [beq_eq_false_iff_ne]; omega
  go_enter Try.func33, Try.ntmps33
  go_wp2_with (fail)
  go_loopw [6] (fun i wr => ∃ k : Nat, k ≤ ls.length ∧ i = .int .i64 k ∧ Hid (∀ j (h : j < ls.length), j < k → isR ls[j].r = true ∧ ls[j].r.o = a) ∧ Hid (At wr gi 78 (OSt.cells ⟨a, b, kk, nn, tt⟩)) ∧ Chg [] w wr) (fun i _ => ls.length - (intOf i).toNat)
  case atStart => exact ⟨0, Nat.zero_le _, rfl, (by intro j h hj; omega), hin, Chg.refl _ _⟩
  case round =>
    clear hin
    obtain ⟨k, hk, rfl, HI, HI0, hch⟩ := hrel
    by_cases hlt : k < ls.length
    · obtain ⟨ad, rfl, had, hc0, hc⟩ := (HR.out.keep0 hch).getR hlt
      have HNo : Hid (¬ (isR ls[k].r = true ∧ ls[k].r.o = a) → sendO ⟨a, b, kk, nn, tt⟩ (ls.map RcV.r) = ([], 0 + 1, ⟨a, b, kk, nn, tt⟩)) := fun h => sendO_bad (i := k) (by simpa using hlt) (by simpa using h)
      have HYes : Hid (isR ls[k].r = true → ls[k].r.o = a → ∀ j (h : j < ls.length), j < k + 1 → isR ls[j].r = true ∧ ls[j].r.o = a) := fun h1 h2 j h hj => by
        by_cases e : j = k
        · subst e; exact ⟨h1, h2⟩
        · exact HI.out j h (by omega)
      have hc1 := hc 1 _ (by omega) rfl
      have hc2 := hc 2 _ (by omega) rfl
      have hc3 := hc 3 _ (by omega) rfl
      have hc4 := hc 4 _ (by omega) rfl
      have hc5 := hc 5 _ (by omega) rfl
      have hc6 := hc 6 _ (by omega) rfl
      have hc7 := hc 7 _ (by omega) rfl
      have hc8 := hc 8 _ (by omega) rfl
      generalize ls[k] = r at *
      clear hc HI
      obtain ⟨⟨ro, rq, key, m, c', vo, val, gone, ttl⟩, A', cp⟩ := r
      simp only at hc0 hc1 hc2 hc3 hc4 hc5 hc6 hc7 hc8 HYes HNo
      have hki : (k : Int) < (ls.length : Int) := by omega
      have KK : Hid (∀ w', Chg [] wr w' → w'.cell? (ad.add (k * 9)) = some (.int .i64 ro) ∧ w'.cell? ⟨(ad.add (k * 9)).block, (ad.add (k * 9)).off + 1, none⟩ = some (.int .i64 rq) ∧ w'.cell? ⟨(ad.add (k * 9)).block, (ad.add (k * 9)).off + 2, none⟩ = some (.string ⟨key.toArray⟩) ∧ w'.cell? ⟨(ad.add (k * 9)).block, (ad.add (k * 9)).off + 3, none⟩ = some (.int .i64 m) ∧ w'.cell? ⟨(ad.add (k * 9)).block, (ad.add (k * 9)).off + 4, none⟩ = some (.int .i64 c') ∧ w'.cell? ⟨(ad.add (k * 9)).block, (ad.add (k * 9)).off + 5, none⟩ = some (.int .i64 vo) ∧ w'.cell? ⟨(ad.add (k * 9)).block, (ad.add (k * 9)).off + 6, none⟩ = some (.slice A' val.length cp) ∧ w'.cell? ⟨(ad.add (k * 9)).block, (ad.add (k * 9)).off + 7, none⟩ = some (.bool gone) ∧ w'.cell? ⟨(ad.add (k * 9)).block, (ad.add (k * 9)).off + 8, none⟩ = some (.int .i64 ttl) ∧ w'.cell? ⟨gi, 0, none⟩ = some (.int .i64 a)) := fun w' hc => ⟨(hc.cell (by rw [add_block]; exact had) (by simp)).trans hc0, (hc.cell (p := ⟨(ad.add (k * 9)).block, (ad.add (k * 9)).off + 1, none⟩) (by show (ad.add (k * 9)).block < _; rw [add_block]; exact had) (by simp)).trans hc1, (hc.cell (p := ⟨(ad.add (k * 9)).block, (ad.add (k * 9)).off + 2, none⟩) (by show (ad.add (k * 9)).block < _; rw [add_block]; exact had) (by simp)).trans hc2, (hc.cell (p := ⟨(ad.add (k * 9)).block, (ad.add (k * 9)).off + 3, none⟩) (by show (ad.add (k * 9)).block < _; rw [add_block]; exact had) (by simp)).trans hc3, (hc.cell (p := ⟨(ad.add (k * 9)).block, (ad.add (k * 9)).off + 4, none⟩) (by show (ad.add (k * 9)).block < _; rw [add_block]; exact had) (by simp)).trans hc4, (hc.cell (p := ⟨(ad.add (k * 9)).block, (ad.add (k * 9)).off + 5, none⟩) (by show (ad.add (k * 9)).block < _; rw [add_block]; exact had) (by simp)).trans hc5, (hc.cell (p := ⟨(ad.add (k * 9)).block, (ad.add (k * 9)).off + 6, none⟩) (by show (ad.add (k * 9)).block < _; rw [add_block]; exact had) (by simp)).trans hc6, (hc.cell (p := ⟨(ad.add (k * 9)).block, (ad.add (k * 9)).off + 7, none⟩) (by show (ad.add (k * 9)).block < _; rw [add_block]; exact had) (by simp)).trans hc7, (hc.cell (p := ⟨(ad.add (k * 9)).block, (ad.add (k * 9)).off + 8, none⟩) (by show (ad.add (k * 9)).block < _; rw [add_block]; exact had) (by simp)).trans hc8, (HI0.out.keep hc (by simp)).cell 0⟩
      clear hc0 hc1 hc2 hc3 hc4 hc5 hc6 hc7 hc8
      obtain ⟨s, hs⟩ : ∃ s, Hid (isR ⟨ro, rq, key, m, c', vo, val, gone, ttl⟩ = s) := ⟨_, rfl⟩
      rw [hs.out] at HYes HNo
      go_wp2_with (fail)
      cases s
      · have HN := Lib.hid (HNo.out (by simp))
        clear HNo HYes
        refine wp_region_held_drew (S := fun w' => w'.cell? (ad.add (k * 9)) = some (.int .i64 ro) ∧ w'.cell? ⟨(ad.add (k * 9)).block, (ad.add (k * 9)).off + 1, none⟩ = some (.int .i64 rq) ∧ w'.cell? ⟨(ad.add (k * 9)).block, (ad.add (k * 9)).off + 2, none⟩ = some (.string ⟨key.toArray⟩) ∧ w'.cell? ⟨(ad.add (k * 9)).block, (ad.add (k * 9)).off + 3, none⟩ = some (.int .i64 m) ∧ w'.cell? ⟨(ad.add (k * 9)).block, (ad.add (k * 9)).off + 4, none⟩ = some (.int .i64 c') ∧ w'.cell? ⟨(ad.add (k * 9)).block, (ad.add (k * 9)).off + 5, none⟩ = some (.int .i64 vo) ∧ w'.cell? ⟨(ad.add (k * 9)).block, (ad.add (k * 9)).off + 6, none⟩ = some (.slice A' val.length cp) ∧ w'.cell? ⟨(ad.add (k * 9)).block, (ad.add (k * 9)).off + 7, none⟩ = some (.bool gone) ∧ w'.cell? ⟨(ad.add (k * 9)).block, (ad.add (k * 9)).off + 8, none⟩ = some (.int .i64 ttl) ∧ w'.cell? ⟨gi, 0, none⟩ = some (.int .i64 a)) (by kernel_rfl) ?_ (fun hHeld => ?_)
        · exact KK.out _ ((Chg.refl [] wr).drewN 1)
        refine takeW (i := 0) (d := (some 19)) (v := ?_) rfl rfl (by kernel_rfl) (by kernel_rfl) (by kernel_rfl) (fun _ _ _ h => h) (by rfl) ?_ (by assumption) ?_
        rotate_left
        · intro w' hSw; (try dsimp only at hSw); go_simp; try with_reducible rfl
        try simp only [Act.put, List.setIfInBounds_toArray, List.set_cons_zero, List.set_cons_succ]
        refine takeW (i := 1) (d := (some 20)) (v := ?_) rfl rfl (by kernel_rfl) (by kernel_rfl) (by kernel_rfl) (fun _ _ _ h => h) (by rfl) ?_ (by assumption) ?_
        rotate_left
        · intro w' hSw; (try dsimp only at hSw); go_simp; try with_reducible rfl
        try simp only [Act.put, List.setIfInBounds_toArray, List.set_cons_zero, List.set_cons_succ]
        refine takeW (i := 2) (d := (some 21)) (v := ?_) rfl rfl (by kernel_rfl) (by kernel_rfl) (by kernel_rfl) (fun _ _ _ h => h) (by rfl) ?_ (by assumption) ?_
        rotate_left
        · intro w' hSw; (try dsimp only at hSw); go_simp; try with_reducible rfl
        try simp only [Act.put, List.setIfInBounds_toArray, List.set_cons_zero, List.set_cons_succ]
        refine takeW (i := 3) (d := (some 22)) (v := ?_) rfl rfl (by kernel_rfl) (by kernel_rfl) (by kernel_rfl) (fun _ _ _ h => h) (by rfl) ?_ (by assumption) ?_
        rotate_left
        · intro w' hSw; (try dsimp only at hSw); go_simp; try with_reducible rfl
        try simp only [Act.put, List.setIfInBounds_toArray, List.set_cons_zero, List.set_cons_succ]
        refine wpAnyH_ready (rs := [4]) (by kernel_rfl) (by simp) ?_
        refine AllReadyH.cons rfl (fun K hK => ?_) AllReadyH.nil
        go_simp
        go_at_call 22
        (with_reducible refine (refIsR_tt _ ro rq key m c' vo A' val cp gone ttl _ hs.out).mono ?_)
        rintro e w3 ⟨rfl, hch3⟩
        have hch23 : Hid (Chg [] wr w3) := ((by repeat' (first | (with_reducible assumption) | (with_reducible exact Chg.refl _ _) | (with_reducible refine Chg.alloc ?_ _) | (with_reducible refine Chg.drewN ?_ _) | (with_reducible refine Chg.drew ?_) | (with_reducible refine Chg.strW ?_ _ _) | (with_reducible refine Chg.t0 ?_ (by with_reducible assumption)))) : Chg [] wr w3)
        go_wp2_with (fail)
        refine hK.out _ _ ?_ (fun hHeld => ?_)
        · first | exact KK.out _ hch23.out | (dsimp only; exact KK.out _ hch23.out)
        clear hK K
        try simp only [Act.put, List.setIfInBounds_toArray, List.set_cons_zero, List.set_cons_succ]
        refine takeW (i := 5) (d := (some 24)) (v := ?_) rfl rfl (by kernel_rfl) (by kernel_rfl) (by kernel_rfl) (fun _ _ _ h => h) (by rfl) ?_ (by assumption) ?_
        rotate_left
        · intro w' hSw; (try dsimp only at hSw); go_simp; try with_reducible rfl
        try simp only [Act.put, List.setIfInBounds_toArray, List.set_cons_zero, List.set_cons_succ]
        refine takeW (i := 6) (d := (some 25)) (v := ?_) rfl rfl (by kernel_rfl) (by kernel_rfl) (by kernel_rfl) (fun _ _ _ h => h) (by rfl) ?_ (by assumption) ?_
        rotate_left
        · intro w' hSw; (try dsimp only at hSw); go_simp; try with_reducible rfl
        try simp only [Act.put, List.setIfInBounds_toArray, List.set_cons_zero, List.set_cons_succ]
        refine takeU (i := 7) (d := (some 26)) rfl rfl (by kernel_rfl) (by kernel_rfl) (by kernel_rfl) (fun _ _ _ h => h) (by rfl) (by assumption) ?_
        try simp only [Act.put, List.setIfInBounds_toArray, List.set_cons_zero, List.set_cons_succ]
        refine takeU (i := 8) (d := (some 27)) rfl rfl (by kernel_rfl) (by kernel_rfl) (by kernel_rfl) (fun _ _ _ h => h) (by rfl) (by assumption) ?_
        try simp only [Act.put, List.setIfInBounds_toArray, List.set_cons_zero, List.set_cons_succ]
        refine takeU (i := 9) (d := (some 28)) rfl rfl (by kernel_rfl) (by kernel_rfl) (by kernel_rfl) (fun _ _ _ h => h) (by rfl) (by assumption) ?_
        try simp only [Act.put, List.setIfInBounds_toArray, List.set_cons_zero, List.set_cons_succ]
        refine takeU (i := 10) (d := (some 29)) rfl rfl (by kernel_rfl) (by kernel_rfl) (by kernel_rfl) (fun _ _ _ h => h) (by rfl) (by assumption) ?_
        try simp only [Act.put, List.setIfInBounds_toArray, List.set_cons_zero, List.set_cons_succ]
        refine takeU (i := 11) (d := (some 30)) rfl rfl (by kernel_rfl) (by kernel_rfl) (by kernel_rfl) (fun _ _ _ h => h) (by rfl) (by assumption) ?_
        try simp only [Act.put, List.setIfInBounds_toArray, List.set_cons_zero, List.set_cons_succ]
        refine takeU (i := 12) (d := (some 31)) rfl rfl (by kernel_rfl) (by kernel_rfl) (by kernel_rfl) (fun _ _ _ h => h) (by rfl) (by assumption) ?_
        try simp only [Act.put, List.setIfInBounds_toArray, List.set_cons_zero, List.set_cons_succ]
        refine takeU (i := 13) (d := (some 32)) rfl rfl (by kernel_rfl) (by kernel_rfl) (by kernel_rfl) (fun _ _ _ h => h) (by rfl) (by assumption) ?_
        try simp only [Act.put, List.setIfInBounds_toArray, List.set_cons_zero, List.set_cons_succ]
        refine takeU (i := 14) (d := (some 33)) rfl rfl (by kernel_rfl) (by kernel_rfl) (by kernel_rfl) (fun _ _ _ h => h) (by rfl) (by assumption) ?_
        try simp only [Act.put, List.setIfInBounds_toArray, List.set_cons_zero, List.set_cons_succ]
        refine takeU (i := 15) (d := (some 34)) rfl rfl (by kernel_rfl) (by kernel_rfl) (by kernel_rfl) (fun _ _ _ h => h) (by rfl) (by assumption) ?_
        try simp only [Act.put, List.setIfInBounds_toArray, List.set_cons_zero, List.set_cons_succ]
        refine takeU (i := 16) (d := (some 35)) rfl rfl (by kernel_rfl) (by kernel_rfl) (by kernel_rfl) (fun _ _ _ h => h) (by rfl) (by assumption) ?_
        try simp only [Act.put, List.setIfInBounds_toArray, List.set_cons_zero, List.set_cons_succ]
        refine takeW (i := 17) (d := (some 36)) (v := ?_) rfl rfl (by kernel_rfl) (by kernel_rfl) (by kernel_rfl) (fun _ _ _ h => h) (by rfl) ?_ (by assumption) ?_
        rotate_left
        · intro w' hSw; (try dsimp only at hSw); go_simp; try with_reducible rfl
        try simp only [Act.put, List.setIfInBounds_toArray, List.set_cons_zero, List.set_cons_succ]
        refine wpAnyH_done (by kernel_rfl) ?_ _
        go_wp2_with (fail)
        go_ret2
        exact RSendPost.no HN.out (HI0.out.keep hch23.out (by simp)) (hch.trans hch23.out (by simp))
      by_cases hoa : ro = a
      rotate_left
      · have hob : (ro != a) = true := by rw [bne_iff_ne]; exact hoa
        have HN := Lib.hid (HNo.out (fun h => hoa h.2))
        clear HNo HYes hoa
        refine wp_region_held_drew (S := fun w' => w'.cell? (ad.add (k * 9)) = some (.int .i64 ro) ∧ w'.cell? ⟨(ad.add (k * 9)).block, (ad.add (k * 9)).off + 1, none⟩ = some (.int .i64 rq) ∧ w'.cell? ⟨(ad.add (k * 9)).block, (ad.add (k * 9)).off + 2, none⟩ = some (.string ⟨key.toArray⟩) ∧ w'.cell? ⟨(ad.add (k * 9)).block, (ad.add (k * 9)).off + 3, none⟩ = some (.int .i64 m) ∧ w'.cell? ⟨(ad.add (k * 9)).block, (ad.add (k * 9)).off + 4, none⟩ = some (.int .i64 c') ∧ w'.cell? ⟨(ad.add (k * 9)).block, (ad.add (k * 9)).off + 5, none⟩ = some (.int .i64 vo) ∧ w'.cell? ⟨(ad.add (k * 9)).block, (ad.add (k * 9)).off + 6, none⟩ = some (.slice A' val.length cp) ∧ w'.cell? ⟨(ad.add (k * 9)).block, (ad.add (k * 9)).off + 7, none⟩ = some (.bool gone) ∧ w'.cell? ⟨(ad.add (k * 9)).block, (ad.add (k * 9)).off + 8, none⟩ = some (.int .i64 ttl) ∧ w'.cell? ⟨gi, 0, none⟩ = some (.int .i64 a)) (by kernel_rfl) ?_ (fun hHeld => ?_)
        · exact KK.out _ ((Chg.refl [] wr).drewN 1)
        refine takeW (i := 0) (d := (some 19)) (v := ?_) rfl rfl (by kernel_rfl) (by kernel_rfl) (by kernel_rfl) (fun _ _ _ h => h) (by rfl) ?_ (by assumption) ?_
        rotate_left
        · intro w' hSw; (try dsimp only at hSw); go_simp; try with_reducible rfl
        try simp only [Act.put, List.setIfInBounds_toArray, List.set_cons_zero, List.set_cons_succ]
        refine takeW (i := 1) (d := (some 20)) (v := ?_) rfl rfl (by kernel_rfl) (by kernel_rfl) (by kernel_rfl) (fun _ _ _ h => h) (by rfl) ?_ (by assumption) ?_
        rotate_left
        · intro w' hSw; (try dsimp only at hSw); go_simp; try with_reducible rfl
        try simp only [Act.put, List.setIfInBounds_toArray, List.set_cons_zero, List.set_cons_succ]
        refine takeW (i := 2) (d := (some 21)) (v := ?_) rfl rfl (by kernel_rfl) (by kernel_rfl) (by kernel_rfl) (fun _ _ _ h => h) (by rfl) ?_ (by assumption) ?_
        rotate_left
        · intro w' hSw; (try dsimp only at hSw); go_simp; try with_reducible rfl
        try simp only [Act.put, List.setIfInBounds_toArray, List.set_cons_zero, List.set_cons_succ]
        refine takeW (i := 3) (d := (some 22)) (v := ?_) rfl rfl (by kernel_rfl) (by kernel_rfl) (by kernel_rfl) (fun _ _ _ h => h) (by rfl) ?_ (by assumption) ?_
        rotate_left
        · intro w' hSw; (try dsimp only at hSw); go_simp; try with_reducible rfl
        try simp only [Act.put, List.setIfInBounds_toArray, List.set_cons_zero, List.set_cons_succ]
        refine wpAnyH_ready (rs := [4]) (by kernel_rfl) (by simp) ?_
        refine AllReadyH.cons rfl (fun K hK => ?_) AllReadyH.nil
        go_simp
        go_at_call 22
        (with_reducible refine (refIsR_tt _ ro rq key m c' vo A' val cp gone ttl _ hs.out).mono ?_)
        rintro e w3 ⟨rfl, hch3⟩
        have hch23 : Hid (Chg [] wr w3) := ((by repeat' (first | (with_reducible assumption) | (with_reducible exact Chg.refl _ _) | (with_reducible refine Chg.alloc ?_ _) | (with_reducible refine Chg.drewN ?_ _) | (with_reducible refine Chg.drew ?_) | (with_reducible refine Chg.strW ?_ _ _) | (with_reducible refine Chg.t0 ?_ (by with_reducible assumption)))) : Chg [] wr w3)
        go_wp2_with (fail)
        refine hK.out _ _ ?_ (fun hHeld => ?_)
        · first | exact KK.out _ hch23.out | (dsimp only; exact KK.out _ hch23.out)
        clear hK K
        try simp only [Act.put, List.setIfInBounds_toArray, List.set_cons_zero, List.set_cons_succ]
        refine takeW (i := 5) (d := (some 24)) (v := ?_) rfl rfl (by kernel_rfl) (by kernel_rfl) (by kernel_rfl) (fun _ _ _ h => h) (by rfl) ?_ (by assumption) ?_
        rotate_left
        · intro w' hSw; (try dsimp only at hSw); go_simp; try with_reducible rfl
        try simp only [Act.put, List.setIfInBounds_toArray, List.set_cons_zero, List.set_cons_succ]
        refine takeW (i := 6) (d := (some 25)) (v := ?_) rfl rfl (by kernel_rfl) (by kernel_rfl) (by kernel_rfl) (fun _ _ _ h => h) (by rfl) ?_ (by assumption) ?_
        rotate_left
        · intro w' hSw; (try dsimp only at hSw); go_simp; try with_reducible rfl
        try simp only [Act.put, List.setIfInBounds_toArray, List.set_cons_zero, List.set_cons_succ]
        refine takeW (i := 7) (d := (some 26)) (v := ?_) rfl rfl (by kernel_rfl) (by kernel_rfl) (by kernel_rfl) (fun _ _ _ h => h) (by rfl) ?_ (by assumption) ?_
        rotate_left
        · intro w' hSw; (try dsimp only at hSw); go_simp; try with_reducible rfl
        try simp only [Act.put, List.setIfInBounds_toArray, List.set_cons_zero, List.set_cons_succ]
        refine takeW (i := 8) (d := (some 27)) (v := ?_) rfl rfl (by kernel_rfl) (by kernel_rfl) (by kernel_rfl) (fun _ _ _ h => h) (by rfl) ?_ (by assumption) ?_
        rotate_left
        · intro w' hSw; (try dsimp only at hSw); go_simp; try with_reducible rfl
        try simp only [Act.put, List.setIfInBounds_toArray, List.set_cons_zero, List.set_cons_succ]
        refine takeW (i := 9) (d := (some 28)) (v := ?_) rfl rfl (by kernel_rfl) (by kernel_rfl) (by kernel_rfl) (fun _ _ _ h => h) (by rfl) ?_ (by assumption) ?_
        rotate_left
        · intro w' hSw; (try dsimp only at hSw); go_simp; try with_reducible rfl
        try simp only [Act.put, List.setIfInBounds_toArray, List.set_cons_zero, List.set_cons_succ]
        refine takeW (i := 10) (d := (some 29)) (v := ?_) rfl rfl (by kernel_rfl) (by kernel_rfl) (by kernel_rfl) (fun _ _ _ h => h) (by rfl) ?_ (by assumption) ?_
        rotate_left
        · intro w' hSw; (try dsimp only at hSw); go_simp; try with_reducible rfl
        try simp only [Act.put, List.setIfInBounds_toArray, List.set_cons_zero, List.set_cons_succ]
        refine takeW (i := 11) (d := (some 30)) (v := ?_) rfl rfl (by kernel_rfl) (by kernel_rfl) (by kernel_rfl) (fun _ _ _ h => h) (by rfl) ?_ (by assumption) ?_
        rotate_left
        · intro w' hSw; (try dsimp only at hSw); go_simp; try with_reducible rfl
        try simp only [Act.put, List.setIfInBounds_toArray, List.set_cons_zero, List.set_cons_succ]
        refine takeW (i := 12) (d := (some 31)) (v := ?_) rfl rfl (by kernel_rfl) (by kernel_rfl) (by kernel_rfl) (fun _ _ _ h => h) (by rfl) ?_ (by assumption) ?_
        rotate_left
        · intro w' hSw; (try dsimp only at hSw); go_simp; try with_reducible rfl
        try simp only [Act.put, List.setIfInBounds_toArray, List.set_cons_zero, List.set_cons_succ]
        refine takeW (i := 13) (d := (some 32)) (v := ?_) rfl rfl (by kernel_rfl) (by kernel_rfl) (by kernel_rfl) (fun _ _ _ h => h) (by rfl) ?_ (by assumption) ?_
        rotate_left
        · intro w' hSw; (try dsimp only at hSw); go_simp; try with_reducible rfl
        try simp only [Act.put, List.setIfInBounds_toArray, List.set_cons_zero, List.set_cons_succ]
        refine takeW (i := 14) (d := (some 33)) (v := ?_) rfl rfl (by kernel_rfl) (by kernel_rfl) (by kernel_rfl) (fun _ _ _ h => h) (by rfl) ?_ (by assumption) ?_
        rotate_left
        · intro w' hSw; (try dsimp only at hSw); go_simp; try with_reducible rfl
        try simp only [Act.put, List.setIfInBounds_toArray, List.set_cons_zero, List.set_cons_succ]
        refine takeW (i := 15) (d := (some 34)) (v := ?_) rfl rfl (by kernel_rfl) (by kernel_rfl) (by kernel_rfl) (fun _ _ _ h => h) (by rfl) ?_ (by assumption) ?_
        rotate_left
        · intro w' hSw; (try dsimp only at hSw); go_simp; try with_reducible rfl
        try simp only [Act.put, List.setIfInBounds_toArray, List.set_cons_zero, List.set_cons_succ]
        refine takeW (i := 16) (d := (some 35)) (v := ?_) rfl rfl (by kernel_rfl) (by kernel_rfl) (by kernel_rfl) (fun _ _ _ h => h) (by rfl) ?_ (by assumption) ?_
        rotate_left
        · intro w' hSw; (try dsimp only at hSw); go_simp; try with_reducible rfl
        try simp only [Act.put, List.setIfInBounds_toArray, List.set_cons_zero, List.set_cons_succ]
        refine takeW (i := 17) (d := (some 36)) (v := ?_) rfl rfl (by kernel_rfl) (by kernel_rfl) (by kernel_rfl) (fun _ _ _ h => h) (by rfl) ?_ (by assumption) ?_
        rotate_left
        · intro w' hSw; (try dsimp only at hSw); go_simp; try with_reducible rfl
        try simp only [Act.put, List.setIfInBounds_toArray, List.set_cons_zero, List.set_cons_succ]
        refine wpAnyH_done (by kernel_rfl) ?_ _
        go_wp2_with (fail)
        go_ret2
        exact RSendPost.no HN.out (HI0.out.keep hch23.out (by simp)) (hch.trans hch23.out (by simp))
      have hob : (ro != a) = false := by rw [hoa]; simp
      have HY := Lib.hid (HYes.out rfl hoa)
      clear HNo HYes hoa
      refine wp_region_held_drew (S := fun w' => w'.cell? (ad.add (k * 9)) = some (.int .i64 ro) ∧ w'.cell? ⟨(ad.add (k * 9)).block, (ad.add (k * 9)).off + 1, none⟩ = some (.int .i64 rq) ∧ w'.cell? ⟨(ad.add (k * 9)).block, (ad.add (k * 9)).off + 2, none⟩ = some (.string ⟨key.toArray⟩) ∧ w'.cell? ⟨(ad.add (k * 9)).block, (ad.add (k * 9)).off + 3, none⟩ = some (.int .i64 m) ∧ w'.cell? ⟨(ad.add (k * 9)).block, (ad.add (k * 9)).off + 4, none⟩ = some (.int .i64 c') ∧ w'.cell? ⟨(ad.add (k * 9)).block, (ad.add (k * 9)).off + 5, none⟩ = some (.int .i64 vo) ∧ w'.cell? ⟨(ad.add (k * 9)).block, (ad.add (k * 9)).off + 6, none⟩ = some (.slice A' val.length cp) ∧ w'.cell? ⟨(ad.add (k * 9)).block, (ad.add (k * 9)).off + 7, none⟩ = some (.bool gone) ∧ w'.cell? ⟨(ad.add (k * 9)).block, (ad.add (k * 9)).off + 8, none⟩ = some (.int .i64 ttl) ∧ w'.cell? ⟨gi, 0, none⟩ = some (.int .i64 a)) (by kernel_rfl) ?_ (fun hHeld => ?_)
      · exact KK.out _ ((Chg.refl [] wr).drewN 1)
      refine takeW (i := 0) (d := (some 19)) (v := ?_) rfl rfl (by kernel_rfl) (by kernel_rfl) (by kernel_rfl) (fun _ _ _ h => h) (by rfl) ?_ (by assumption) ?_
      rotate_left
      · intro w' hSw; (try dsimp only at hSw); go_simp; try with_reducible rfl
      try simp only [Act.put, List.setIfInBounds_toArray, List.set_cons_zero, List.set_cons_succ]
      refine takeW (i := 1) (d := (some 20)) (v := ?_) rfl rfl (by kernel_rfl) (by kernel_rfl) (by kernel_rfl) (fun _ _ _ h => h) (by rfl) ?_ (by assumption) ?_
      rotate_left
      · intro w' hSw; (try dsimp only at hSw); go_simp; try with_reducible rfl
      try simp only [Act.put, List.setIfInBounds_toArray, List.set_cons_zero, List.set_cons_succ]
      refine takeW (i := 2) (d := (some 21)) (v := ?_) rfl rfl (by kernel_rfl) (by kernel_rfl) (by kernel_rfl) (fun _ _ _ h => h) (by rfl) ?_ (by assumption) ?_
      rotate_left
      · intro w' hSw; (try dsimp only at hSw); go_simp; try with_reducible rfl
      try simp only [Act.put, List.setIfInBounds_toArray, List.set_cons_zero, List.set_cons_succ]
      refine takeW (i := 3) (d := (some 22)) (v := ?_) rfl rfl (by kernel_rfl) (by kernel_rfl) (by kernel_rfl) (fun _ _ _ h => h) (by rfl) ?_ (by assumption) ?_
      rotate_left
      · intro w' hSw; (try dsimp only at hSw); go_simp; try with_reducible rfl
      try simp only [Act.put, List.setIfInBounds_toArray, List.set_cons_zero, List.set_cons_succ]
      refine wpAnyH_ready (rs := [4]) (by kernel_rfl) (by simp) ?_
      refine AllReadyH.cons rfl (fun K hK => ?_) AllReadyH.nil
      go_simp
      go_at_call 22
      (with_reducible refine (refIsR_tt _ ro rq key m c' vo A' val cp gone ttl _ hs.out).mono ?_)
      rintro e w3 ⟨rfl, hch3⟩
      have hch23 : Hid (Chg [] wr w3) := ((by repeat' (first | (with_reducible assumption) | (with_reducible exact Chg.refl _ _) | (with_reducible refine Chg.alloc ?_ _) | (with_reducible refine Chg.drewN ?_ _) | (with_reducible refine Chg.drew ?_) | (with_reducible refine Chg.strW ?_ _ _) | (with_reducible refine Chg.t0 ?_ (by with_reducible assumption)))) : Chg [] wr w3)
      go_wp2_with (fail)
      refine hK.out _ _ ?_ (fun hHeld => ?_)
      · first | exact KK.out _ hch23.out | (dsimp only; exact KK.out _ hch23.out)
      clear hK K
      try simp only [Act.put, List.setIfInBounds_toArray, List.set_cons_zero, List.set_cons_succ]
      refine takeW (i := 5) (d := (some 24)) (v := ?_) rfl rfl (by kernel_rfl) (by kernel_rfl) (by kernel_rfl) (fun _ _ _ h => h) (by rfl) ?_ (by assumption) ?_
      rotate_left
      · intro w' hSw; (try dsimp only at hSw); go_simp; try with_reducible rfl
      try simp only [Act.put, List.setIfInBounds_toArray, List.set_cons_zero, List.set_cons_succ]
      refine takeW (i := 6) (d := (some 25)) (v := ?_) rfl rfl (by kernel_rfl) (by kernel_rfl) (by kernel_rfl) (fun _ _ _ h => h) (by rfl) ?_ (by assumption) ?_
      rotate_left
      · intro w' hSw; (try dsimp only at hSw); go_simp; try with_reducible rfl
      try simp only [Act.put, List.setIfInBounds_toArray, List.set_cons_zero, List.set_cons_succ]
      refine takeW (i := 7) (d := (some 26)) (v := ?_) rfl rfl (by kernel_rfl) (by kernel_rfl) (by kernel_rfl) (fun _ _ _ h => h) (by rfl) ?_ (by assumption) ?_
      rotate_left
      · intro w' hSw; (try dsimp only at hSw); go_simp; try with_reducible rfl
      try simp only [Act.put, List.setIfInBounds_toArray, List.set_cons_zero, List.set_cons_succ]
      refine takeW (i := 8) (d := (some 27)) (v := ?_) rfl rfl (by kernel_rfl) (by kernel_rfl) (by kernel_rfl) (fun _ _ _ h => h) (by rfl) ?_ (by assumption) ?_
      rotate_left
      · intro w' hSw; (try dsimp only at hSw); go_simp; try with_reducible rfl
      try simp only [Act.put, List.setIfInBounds_toArray, List.set_cons_zero, List.set_cons_succ]
      refine takeW (i := 9) (d := (some 28)) (v := ?_) rfl rfl (by kernel_rfl) (by kernel_rfl) (by kernel_rfl) (fun _ _ _ h => h) (by rfl) ?_ (by assumption) ?_
      rotate_left
      · intro w' hSw; (try dsimp only at hSw); go_simp; try with_reducible rfl
      try simp only [Act.put, List.setIfInBounds_toArray, List.set_cons_zero, List.set_cons_succ]
      refine takeW (i := 10) (d := (some 29)) (v := ?_) rfl rfl (by kernel_rfl) (by kernel_rfl) (by kernel_rfl) (fun _ _ _ h => h) (by rfl) ?_ (by assumption) ?_
      rotate_left
      · intro w' hSw; (try dsimp only at hSw); go_simp; try with_reducible rfl
      try simp only [Act.put, List.setIfInBounds_toArray, List.set_cons_zero, List.set_cons_succ]
      refine takeW (i := 11) (d := (some 30)) (v := ?_) rfl rfl (by kernel_rfl) (by kernel_rfl) (by kernel_rfl) (fun _ _ _ h => h) (by rfl) ?_ (by assumption) ?_
      rotate_left
      · intro w' hSw; (try dsimp only at hSw); go_simp; try with_reducible rfl
      try simp only [Act.put, List.setIfInBounds_toArray, List.set_cons_zero, List.set_cons_succ]
      refine takeW (i := 12) (d := (some 31)) (v := ?_) rfl rfl (by kernel_rfl) (by kernel_rfl) (by kernel_rfl) (fun _ _ _ h => h) (by rfl) ?_ (by assumption) ?_
      rotate_left
      · intro w' hSw; (try dsimp only at hSw); go_simp; try with_reducible rfl
      try simp only [Act.put, List.setIfInBounds_toArray, List.set_cons_zero, List.set_cons_succ]
      refine takeW (i := 13) (d := (some 32)) (v := ?_) rfl rfl (by kernel_rfl) (by kernel_rfl) (by kernel_rfl) (fun _ _ _ h => h) (by rfl) ?_ (by assumption) ?_
      rotate_left
      · intro w' hSw; (try dsimp only at hSw); go_simp; try with_reducible rfl
      try simp only [Act.put, List.setIfInBounds_toArray, List.set_cons_zero, List.set_cons_succ]
      refine takeW (i := 14) (d := (some 33)) (v := ?_) rfl rfl (by kernel_rfl) (by kernel_rfl) (by kernel_rfl) (fun _ _ _ h => h) (by rfl) ?_ (by assumption) ?_
      rotate_left
      · intro w' hSw; (try dsimp only at hSw); go_simp; try with_reducible rfl
      try simp only [Act.put, List.setIfInBounds_toArray, List.set_cons_zero, List.set_cons_succ]
      refine takeW (i := 15) (d := (some 34)) (v := ?_) rfl rfl (by kernel_rfl) (by kernel_rfl) (by kernel_rfl) (fun _ _ _ h => h) (by rfl) ?_ (by assumption) ?_
      rotate_left
      · intro w' hSw; (try dsimp only at hSw); go_simp; try with_reducible rfl
      try simp only [Act.put, List.setIfInBounds_toArray, List.set_cons_zero, List.set_cons_succ]
      refine takeW (i := 16) (d := (some 35)) (v := ?_) rfl rfl (by kernel_rfl) (by kernel_rfl) (by kernel_rfl) (fun _ _ _ h => h) (by rfl) ?_ (by assumption) ?_
      rotate_left
      · intro w' hSw; (try dsimp only at hSw); go_simp; try with_reducible rfl
      try simp only [Act.put, List.setIfInBounds_toArray, List.set_cons_zero, List.set_cons_succ]
      refine takeW (i := 17) (d := (some 36)) (v := ?_) rfl rfl (by kernel_rfl) (by kernel_rfl) (by kernel_rfl) (fun _ _ _ h => h) (by rfl) ?_ (by assumption) ?_
      rotate_left
      · intro w' hSw; (try dsimp only at hSw); go_simp; try with_reducible rfl
      try simp only [Act.put, List.setIfInBounds_toArray, List.set_cons_zero, List.set_cons_succ]
      refine wpAnyH_done (by kernel_rfl) ?_ _
      go_wp2_with (fail)
      go_roundw
      case rel => exact ⟨k + 1, by omega, by go_num, HY.out, HI0.out.keep hch23.out (by simp), hch.trans hch23.out (by simp)⟩
      case measure => simp [intOf]; omega
    · obtain rfl : k = ls.length := by omega
      have HOK : Hid (okL a (ls.map RcV.r) = true) := okL_iff.2 fun r hr => by
        obtain ⟨x, hx, rfl⟩ := List.mem_map.1 hr
        obtain ⟨j, hj, rfl⟩ := List.getElem_of_mem hx
        exact HI.out j hj hj
      have hpos : 0 < ls.length := by omega
      have HQ : Hid (1 ≤ ls[0].r.q ∧ ls[0].r.q ≤ 1099511627776) := by
        have := isR_iff.1 (HI.out 0 hpos hpos).1
        exact ⟨this.q1, this.q2⟩
      by_cases h8 : 8 < ls.length
      · have HE := Lib.hid (sendO_long (o := ⟨a, b, kk, nn, tt⟩) HOK.out (by simpa using h8))
        go_wp2_with (fail)
        go_ret2
        exact RSendPost.no (n := 4) HE.out HI0.out hch
      obtain ⟨ad, rfl, had, -, hc⟩ := (HR.out.keep0 hch).getR hpos
      have hf := hc 1 _ (by omega) rfl
      rw [Nat.zero_mul, add_zero] at hf
      have hz0 : (0 : Int) < (ls.length : Int) := by omega
      have HG : Hid (∀ (i : Nat) (hi : i < ls.length), ls[i].r.q ≠ ls[0].r.q + i → sendO ⟨a, b, kk, nn, tt⟩ (ls.map RcV.r) = ([], 11 + 1, ⟨a, b, kk, nn, tt⟩)) := fun i hi h => sendO_gap (o := ⟨a, b, kk, nn, tt⟩) HOK.out (by simpa using h8) (by simpa using hpos) (i := i) (by simpa using hi) (by simpa using h)
      have HF0 : Hid ((∀ i (h : i < ls.length), ls[i].r.q = ls[0].r.q + i) → (ls[0].r.q ≤ kk ∨ nn + 1 < ls[0].r.q) → sendO ⟨a, b, kk, nn, tt⟩ (ls.map RcV.r) = ([], 11 + 1, ⟨a, b, kk, nn, tt⟩)) := fun h hb => sendO_off (o := ⟨a, b, kk, nn, tt⟩) HOK.out (by simpa using h8) (by simpa using hpos) (fun i hi => by simpa using h i (by simpa using hi)) (by simpa using hb)
      have HYY : Hid ((∀ i (h : i < ls.length), ls[i].r.q = ls[0].r.q + i) → ¬ ls[0].r.q ≤ kk → ¬ nn + 1 < ls[0].r.q → sendO ⟨a, b, kk, nn, tt⟩ (ls.map RcV.r) = (encF (bodyW ⟨1, a, ls[0].r.q, 0, 0, 0, 0, ls.map RcV.r⟩), 0, ⟨a, b, kk, max nn (ls[0].r.q + ls.length - 1), 0⟩)) := fun h h1 h2 => by
        have := sendO_yes (o := ⟨a, b, kk, nn, tt⟩) (f := ls[0].r.q) HOK.out (by simpa using h8) (by simpa using hpos) (fun i hi => by simpa using h i (by simpa using hi)) h1 h2
        rwa [List.length_map] at this
      have HWW : Hid ((∀ i (h : i < ls.length), ls[i].r.q = ls[0].r.q + i) → isW ⟨1, a, ls[0].r.q, 0, 0, 0, 0, ls.map RcV.r⟩ = true) := fun h => isW_send a0 a5 HOK.out (by simpa using h8) (by simpa using hpos) (fun i hi => by simpa using h i (by simpa using hi))
      have hf' : ((RcV.cells ls[0])[1]?) = some (.int .i64 ls[0].r.q) := rfl
      obtain ⟨q1, q2⟩ := HQ.out
      have hl8 : ls.length ≤ 8 := by omega
      have HF1 := Lib.hid (rfl : ls[0].r.q = ls[0].r.q)
      generalize hq0 : ls[0].r.q = q0 at *
      have HQ0 := Lib.hid hq0
      clear HI hc hf' HQ HF1 hq0 h8 HOK
      go_wp2_with (fail)
      go_loopw [7] (fun i wr => ∃ k : Nat, k ≤ ls.length ∧ i = .int .i64 k ∧ Hid (∀ j (h : j < ls.length), j < k → ls[j].r.q = q0 + j) ∧ Hid (At wr gi 78 (OSt.cells ⟨a, b, kk, nn, tt⟩)) ∧ Chg [] w wr) (fun i _ => ls.length - (intOf i).toNat)
      case atStart => exact ⟨0, Nat.zero_le _, rfl, (by intro j h hj; omega), HI0, hch⟩
      case round =>
        clear hch HI0 hf
        obtain ⟨k, hk, rfl, HI, HI0, hch⟩ := hrel
        obtain ⟨ad0, he0, had0, -, hcf0⟩ := (HR.out.keep0 hch).getR hpos
        obtain rfl : ad = ad0 := by injection he0
        have hf := hcf0 1 _ (by omega) rfl
        rw [Nat.zero_mul, add_zero] at hf
        have hfq : ((RcV.cells ls[0])[1]?) = some (.int .i64 q0) := by rw [← HQ0.out]; rfl
        have hf2 : wr.cell? ⟨ad.block, ad.off + 1, none⟩ = some (.int .i64 q0) := by rw [← HQ0.out]; exact hf
        clear hf hcf0 he0
        by_cases hlt : k < ls.length
        · obtain ⟨ad', he', had', hc0, hc⟩ := (HR.out.keep0 hch).getR hlt
          obtain rfl : ad = ad' := by injection he'
          have HNo := Lib.hid (HG.out k hlt)
          have HYes : Hid (ls[k].r.q = q0 + k → ∀ j (h : j < ls.length), j < k + 1 → ls[j].r.q = q0 + j) := fun h1 j h hj => by
            by_cases e : j = k
            · subst e; exact h1
            · exact HI.out j h (by omega)
          have hc1 := hc 1 _ (by omega) rfl
          generalize ls[k] = r at *
          clear hc HI hc0 hfq
          obtain ⟨⟨ro, rq, key, m, c', vo, val, gone, ttl⟩, A', cp⟩ := r
          simp only at hc1 HYes HNo
          have hki : (k : Int) < (ls.length : Int) := by omega
          have hk8 : (k : Int) ≤ 8 := by omega
          have hw0 : IntKind.i64.wrap (q0 + (k : Int)) = q0 + (k : Int) := IntWalk.i64_in _ (by omega)
          by_cases hq : rq = q0 + (k : Int)
          · have hqb : (rq != q0 + (k : Int)) = false := by rw [hq]; simp
            have HY := Lib.hid (HYes.out hq)
            clear HNo HYes hq
            go_wp2_with (fail)
            go_quiet (fail)
            go_wp2_with (fail)
            go_roundw
            case rel => exact ⟨k + 1, by omega, by go_num, HY.out, (by first | exact HI0.out | exact HI0.out.keep ((Chg.refl [] _).drewN _) (by simp)), (by first | exact hch | exact hch.drewN _)⟩
            case measure => simp [intOf]; omega
          · have hqb : (rq != q0 + (k : Int)) = true := by rw [bne_iff_ne]; exact hq
            have HN := Lib.hid (HNo.out hq)
            clear HNo HYes hq
            go_wp2_with (fail)
            go_quiet (fail)
            go_wp2_with (fail)
            go_ret2
            exact RSendPost.no (n := 11) HN.out (by first | exact HI0.out | exact HI0.out.keep ((Chg.refl [] _).drewN _) (by simp)) (by first | exact hch | exact hch.drewN _)
        · obtain rfl : k = ls.length := by omega
          have HI' : Hid (∀ i (h : i < ls.length), ls[i].r.q = q0 + i) := fun i h => HI.out i h h
          obtain ⟨c0, c1, c2, c3, c4⟩ := HI0.out.o5
          simp only at c0 c1 c2 c3 c4
          have HF := Lib.hid (HF0.out HI'.out)
          have HYZ := Lib.hid (HYY.out HI'.out)
          have HWZ := Lib.hid (HWW.out HI'.out)
          have hw1 : IntKind.i64.wrap (nn + 1) = nn + 1 := IntWalk.i64_in _ (by omega)
          clear HF0 HYY HWW HG HI hfq
          by_cases h1 : q0 ≤ kk
          · have HN := Lib.hid (HF.out (by omega))
            have h1b : decide (q0 ≤ kk) = true := decide_eq_true h1
            go_wp2_with (fail)
            go_quiet (fail)
            go_wp2_with (fail)
            go_ret2
            exact RSendPost.no (n := 11) HN.out (by first | exact HI0.out | exact HI0.out.keep ((Chg.refl [] _).drewN _) (by simp)) (by first | exact hch | exact hch.drewN _)
          have h1b : decide (q0 ≤ kk) = false := decide_eq_false h1
          by_cases h2 : nn + 1 < q0
          · have HN := Lib.hid (HF.out (by omega))
            have h2b : decide (nn + 1 < q0) = true := decide_eq_true h2
            go_wp2_with (fail)
            go_quiet (fail)
            go_wp2_with (fail)
            go_ret2
            exact RSendPost.no (n := 11) HN.out (by first | exact HI0.out | exact HI0.out.keep ((Chg.refl [] _).drewN _) (by simp)) (by first | exact hch | exact hch.drewN _)
          have h2b : decide (nn + 1 < q0) = false := decide_eq_false h2
          have HE := Lib.hid (HYZ.out (by omega) (by omega))
          clear HF HYZ
          go_wp2_with (fail)
          go_quiet (fail)
          go_wp2_with (fail)
          obtain ⟨L1, hL1⟩ : ∃ L1 : Nat, ls.length = L1 + 1 := ⟨ls.length - 1, by omega⟩
          have hl1 : L1 < ls.length := by omega
          have hsub : IntKind.i64.wrap ((ls.length : Int) - 1) = (L1 : Int) := by rw [show ((ls.length : Int) - 1) = (L1 : Int) by omega]; exact IntWalk.i64_in _ (by omega)
          have hsub2 : ((ls.length : Int) - 1) = (L1 : Int) := by omega
          have hl1i : (L1 : Int) < (ls.length : Int) := by omega
          have hl10 : (0 : Int) ≤ (L1 : Int) := by omega
          have hwl : IntKind.i64.wrap (L1 : Int) = (L1 : Int) := IntWalk.i64_in _ (by omega)
          have HLC : Hid (∀ w', Chg [] wr w' → w'.cell? ⟨(ad.add (L1 * 9)).block, (ad.add (L1 * 9)).off + 1, none⟩ = some (.int .i64 (q0 + (L1 : Int)))) := fun w' hcw => by
            obtain ⟨ad3, he3, _, _, hcl⟩ := (HR.out.keep0 (hch.trans hcw (by simp))).getR hl1
            obtain rfl : ad = ad3 := by injection he3
            have e1 := hcl 1 _ (by omega) rfl
            rw [show (Value.int .i64 ls[L1].r.q) = .int .i64 (q0 + (L1 : Int)) by rw [HI'.out L1 hl1]] at e1
            exact e1
          have hcm : Chg [gi] w wr := hch.mono (by simp)
          have HLC2 : Hid (∀ w', Chg [gi] w w' → w'.cell? ⟨(ad.add (L1 * 9)).block, (ad.add (L1 * 9)).off + 1, none⟩ = some (.int .i64 (q0 + (L1 : Int)))) := fun w' hcw => by
            obtain ⟨ad3, he3, _, _, hcl⟩ := ((HKK.out w' hcw).1).getR hl1
            obtain rfl : ad = ad3 := by injection he3
            have e1 := hcl 1 _ (by omega) rfl
            rw [show (Value.int .i64 ls[L1].r.q) = .int .i64 (q0 + (L1 : Int)) by rw [HI'.out L1 hl1]] at e1
            exact e1
          have HFC : Hid (∀ w', Chg [gi] w w' → w'.cell? ⟨ad.block, ad.off + 1, none⟩ = some (.int .i64 q0)) := fun w' hcw => by
            obtain ⟨ad3, he3, _, _, hcl⟩ := ((HKK.out w' hcw).1).getR hpos
            obtain rfl : ad = ad3 := by injection he3
            have e1 := hcl 1 _ (by omega) rfl
            rw [Nat.zero_mul, add_zero] at e1
            rw [← HQ0.out]; exact e1
          have f3 := HI0.out.free 3
          have f4 := HI0.out.free 4
          have hmx : max nn (q0 + (L1 : Int)) = max nn (q0 + (ls.length : Int) - 1) := by rw [show q0 + (ls.length : Int) - 1 = q0 + (L1 : Int) by omega]
          have HMX := Lib.hid hmx
          have HL1 := Lib.hid hL1
          clear hmx hL1
          refine wp_region_held_drew (S := fun w' => w'.cell? ⟨(ad.add (L1 * 9)).block, (ad.add (L1 * 9)).off + 1, none⟩ = some (.int .i64 (q0 + (L1 : Int)))) (by kernel_rfl) ?_ (fun hHeld => ?_)
          · exact HLC.out _ (by repeat' (first | (with_reducible assumption) | (with_reducible exact Chg.refl _ _) | (with_reducible refine Chg.alloc ?_ _) | (with_reducible refine Chg.drewN ?_ _) | (with_reducible refine Chg.drew ?_) | (with_reducible refine Chg.strW ?_ _ _) | (with_reducible refine Chg.t0 ?_ (by with_reducible assumption))))
          refine takeW (i := 0) (d := (some 79)) (v := ?_) rfl rfl (by kernel_rfl) (by kernel_rfl) (by kernel_rfl) (fun _ _ _ h => h) (by rfl) ?_ (by assumption) ?_
          rotate_left
          · intro w' hSw; (try dsimp only at hSw); go_simp; try with_reducible rfl
          try simp only [Act.put, List.setIfInBounds_toArray, List.set_cons_zero, List.set_cons_succ]
          refine takeW (i := 1) (d := (some 80)) (v := ?_) rfl rfl (by kernel_rfl) (by kernel_rfl) (by kernel_rfl) (fun _ _ _ h => h) (by rfl) ?_ (by assumption) ?_
          rotate_left
          · intro w' hSw; (try dsimp only at hSw); go_simp; try with_reducible rfl
          try simp only [Act.put, List.setIfInBounds_toArray, List.set_cons_zero, List.set_cons_succ]
          refine takeW (i := 2) (d := (some 81)) (v := ?_) rfl rfl (by kernel_rfl) (by kernel_rfl) (by kernel_rfl) (fun _ _ _ h => h) (by rfl) ?_ (by assumption) ?_
          rotate_left
          · intro w' hSw; (try dsimp only at hSw); go_simp; try with_reducible rfl
          try simp only [Act.put, List.setIfInBounds_toArray, List.set_cons_zero, List.set_cons_succ]
          refine takeW (i := 3) (d := (some 82)) (v := ?_) rfl rfl (by kernel_rfl) (by kernel_rfl) (by kernel_rfl) (fun _ _ _ h => h) (by rfl) ?_ (by assumption) ?_
          rotate_left
          · intro w' hSw; (try dsimp only at hSw); go_simp; try with_reducible rfl
          try simp only [Act.put, List.setIfInBounds_toArray, List.set_cons_zero, List.set_cons_succ]
          refine takeW (i := 5) (d := (some 84)) (v := ?_) rfl rfl (by kernel_rfl) (by kernel_rfl) (by kernel_rfl) (fun _ _ _ h => h) (by rfl) ?_ (by assumption) ?_
          rotate_left
          · intro w' hSw; (try dsimp only at hSw); go_simp; try with_reducible rfl
          try simp only [Act.put, List.setIfInBounds_toArray, List.set_cons_zero, List.set_cons_succ]
          refine takeW (i := 6) (d := (some 85)) (v := ?_) rfl rfl (by kernel_rfl) (by kernel_rfl) (by kernel_rfl) (fun _ _ _ h => h) (by rfl) ?_ (by assumption) ?_
          rotate_left
          · intro w' hSw; (try dsimp only at hSw); go_simp; try with_reducible rfl
          try simp only [Act.put, List.setIfInBounds_toArray, List.set_cons_zero, List.set_cons_succ]
          refine takeW (i := 7) (d := (some 86)) (v := ?_) rfl rfl (by kernel_rfl) (by kernel_rfl) (by kernel_rfl) (fun _ _ _ h => h) (by rfl) ?_ (by assumption) ?_
          rotate_left
          · intro w' hSw; (try dsimp only at hSw); go_simp; try with_reducible rfl
          try simp only [Act.put, List.setIfInBounds_toArray, List.set_cons_zero, List.set_cons_succ]
          refine takeW (i := 8) (d := (some 87)) (v := ?_) rfl rfl (by kernel_rfl) (by kernel_rfl) (by kernel_rfl) (fun _ _ _ h => h) (by rfl) ?_ (by assumption) ?_
          rotate_left
          · intro w' hSw; (try dsimp only at hSw); go_simp; try with_reducible rfl
          try simp only [Act.put, List.setIfInBounds_toArray, List.set_cons_zero, List.set_cons_succ]
          refine takeW (i := 9) (d := (some 88)) (v := ?_) rfl rfl (by kernel_rfl) (by kernel_rfl) (by kernel_rfl) (fun _ _ _ h => h) (by rfl) ?_ (by assumption) ?_
          rotate_left
          · intro w' hSw; (try dsimp only at hSw); go_simp; try with_reducible rfl
          try simp only [Act.put, List.setIfInBounds_toArray, List.set_cons_zero, List.set_cons_succ]
          refine takeW (i := 10) (d := (some 89)) (v := ?_) rfl rfl (by kernel_rfl) (by kernel_rfl) (by kernel_rfl) (fun _ _ _ h => h) (by rfl) ?_ (by assumption) ?_
          rotate_left
          · intro w' hSw; (try dsimp only at hSw); go_simp; try with_reducible rfl
          try simp only [Act.put, List.setIfInBounds_toArray, List.set_cons_zero, List.set_cons_succ]
          refine takeW (i := 11) (d := (some 90)) (v := ?_) rfl rfl (by kernel_rfl) (by kernel_rfl) (by kernel_rfl) (fun _ _ _ h => h) (by rfl) ?_ (by assumption) ?_
          rotate_left
          · intro w' hSw; (try dsimp only at hSw); go_simp; try with_reducible rfl
          try simp only [Act.put, List.setIfInBounds_toArray, List.set_cons_zero, List.set_cons_succ]
          refine wpAnyH_ready (rs := [4]) (by kernel_rfl) (by simp) ?_
          refine AllReadyH.cons rfl (fun K hK => ?_) AllReadyH.nil
          go_simp
          skip
          go_wp2_with (fail)
          refine hK.out _ _ ?_ (fun hHeld => ?_)
          · first | assumption | exact HLC.out _ (by repeat' (first | (with_reducible assumption) | (with_reducible exact Chg.refl _ _) | (with_reducible refine Chg.alloc ?_ _) | (with_reducible refine Chg.drewN ?_ _) | (with_reducible refine Chg.drew ?_) | (with_reducible refine Chg.strW ?_ _ _) | (with_reducible refine Chg.t0 ?_ (by with_reducible assumption))))
          clear hK K
          try simp only [Act.put, List.setIfInBounds_toArray, List.set_cons_zero, List.set_cons_succ]
          refine takeW (i := 12) (d := (some 91)) (v := ?_) rfl rfl (by kernel_rfl) (by kernel_rfl) (by kernel_rfl) (fun _ _ _ h => h) (by rfl) ?_ (by assumption) ?_
          rotate_left
          · intro w' hSw; (try dsimp only at hSw); go_simp; try with_reducible rfl
          try simp only [Act.put, List.setIfInBounds_toArray, List.set_cons_zero, List.set_cons_succ]
          refine takeW (i := 13) (d := (some 92)) (v := ?_) rfl rfl (by kernel_rfl) (by kernel_rfl) (by kernel_rfl) (fun _ _ _ h => h) (by rfl) ?_ (by assumption) ?_
          rotate_left
          · intro w' hSw; (try dsimp only at hSw); go_simp; try with_reducible rfl
          try simp only [Act.put, List.setIfInBounds_toArray, List.set_cons_zero, List.set_cons_succ]
          refine takeW (i := 14) (d := (some 93)) (v := ?_) rfl rfl (by kernel_rfl) (by kernel_rfl) (by kernel_rfl) (fun _ _ _ h => h) (by rfl) ?_ (by assumption) ?_
          rotate_left
          · intro w' hSw; (try dsimp only at hSw); go_simp; try with_reducible rfl
          try simp only [Act.put, List.setIfInBounds_toArray, List.set_cons_zero, List.set_cons_succ]
          refine wpAnyH_ready (rs := [15]) (by kernel_rfl) (by simp) ?_
          refine AllReadyH.cons rfl (fun K hK => ?_) AllReadyH.nil
          go_simp
          skip
          go_wp2_with (fail)
          refine hK.out _ _ ?_ (fun hHeld => ?_)
          · refine HLC2.out _ (Chg.setCell ?_ (.inl (by simp)) _); exact (hcm.trans ((by repeat' (first | (with_reducible assumption) | (with_reducible exact Chg.refl _ _) | (with_reducible refine Chg.alloc ?_ _) | (with_reducible refine Chg.drewN ?_ _) | (with_reducible refine Chg.drew ?_) | (with_reducible refine Chg.strW ?_ _ _) | (with_reducible refine Chg.t0 ?_ (by with_reducible assumption)))) : Chg [gi] wr _) (by simp))
          clear hK K
          try simp only [Act.put, List.setIfInBounds_toArray, List.set_cons_zero, List.set_cons_succ]
          refine wpAnyH_done (by kernel_rfl) ?_ _
          go_wp2_with (fail)
          have HI3 : Hid (At (((wr.drewN (nq + 1)).setCell ⟨gi, 3, none⟩ (.int .i64 (max nn (q0 + (L1 : Int))))).setCell ⟨gi, 4, none⟩ (.int .i64 0)) gi 78 (OSt.cells ⟨a, b, kk, max nn (q0 + (ls.length : Int) - 1), 0⟩)) := by
            rw [← HMX.out]
            exact OSt.setN (HI0.out.keep ((Chg.refl [] wr).drewN (nq + 1)) (by simp)) _ _
          have hc3 : Hid (Chg [gi] w (((wr.drewN (nq + 1)).setCell ⟨gi, 3, none⟩ (.int .i64 (max nn (q0 + (L1 : Int))))).setCell ⟨gi, 4, none⟩ (.int .i64 0))) := ((hcm.drewN (nq + 1)).setCell (.inl (by simp)) _).setCell (.inl (by simp)) _
          clear HLC HLC2 c0 c1 c2 c3 c4 hf2 f3 f4
          generalize (((wr.drewN (nq + 1)).setCell ⟨gi, 3, none⟩ (.int .i64 (max nn (q0 + (L1 : Int))))).setCell ⟨gi, 4, none⟩ (.int .i64 0)) = w3 at *
          obtain ⟨E, hE⟩ : ∃ E, Hid (encF (bodyW ⟨1, a, q0, 0, 0, 0, 0, ls.map RcV.r⟩) = E) := ⟨_, rfl⟩
          rw [hE.out] at HE
          have KK : Hid (∀ w', Chg [] w3 w' → w'.cell? ⟨gi, 0, none⟩ = some (.int .i64 a) ∧ w'.cell? ⟨ad.block, ad.off + 1, none⟩ = some (.int .i64 q0)) := fun w' hc => ⟨(HI3.out.keep hc (by simp)).o5.1, HFC.out w' (hc3.out.trans hc (by simp))⟩
          have KR : Hid (∀ w', Chg [] w3 w' → Rd w' 9 (some ad) ls.length (cRc ls) ∧ ∀ x ∈ ls, Rd w' 1 x.A x.r.val.length (cB x.r.val)) := fun w' hc => HKK.out w' (hc3.out.trans hc (by simp))
          obtain ⟨c0, cq⟩ := KK.out w3 (Chg.refl _ _)
          go_region_held3 (fun w' => w'.cell? ⟨gi, 0, none⟩ = some (.int .i64 a) ∧ w'.cell? ⟨ad.block, ad.off + 1, none⟩ = some (.int .i64 q0)) (first | go_keep | exact KK.out _ (by repeat' (first | (with_reducible assumption) | (with_reducible exact Chg.refl _ _) | (with_reducible refine Chg.alloc ?_ _) | (with_reducible refine Chg.drewN ?_ _) | (with_reducible refine Chg.drew ?_) | (with_reducible refine Chg.strW ?_ _ _) | (with_reducible refine Chg.t0 ?_ (by with_reducible assumption)))) | fail)
            (first
              | (go_simp; go_at_call 43; (with_reducible refine (refEncW_any _ 1 a q0 0 0 0 0 (some ad) _ c ls rfl (KR.out _ (by repeat' (first | (with_reducible assumption) | (with_reducible exact Chg.refl _ _) | (with_reducible refine Chg.alloc ?_ _) | (with_reducible refine Chg.drewN ?_ _) | (with_reducible refine Chg.drew ?_) | (with_reducible refine Chg.strW ?_ _ _) | (with_reducible refine Chg.t0 ?_ (by with_reducible assumption))))).1 (KR.out _ (by repeat' (first | (with_reducible assumption) | (with_reducible exact Chg.refl _ _) | (with_reducible refine Chg.alloc ?_ _) | (with_reducible refine Chg.drewN ?_ _) | (with_reducible refine Chg.drew ?_) | (with_reducible refine Chg.strW ?_ _ _) | (with_reducible refine Chg.t0 ?_ (by with_reducible assumption))))).2 (by omega)).mono ?_); rw [encW_yes HWZ.out, hE.out]; rintro e w4 ⟨A2, c2', rfl, hnb⟩; have hchd := hnb.2; have hch2 : Hid (Chg [] w3 w4) := ((by repeat' (first | (with_reducible assumption) | (with_reducible exact Chg.refl _ _) | (with_reducible refine Chg.alloc ?_ _) | (with_reducible refine Chg.drewN ?_ _) | (with_reducible refine Chg.drew ?_) | (with_reducible refine Chg.strW ?_ _ _) | (with_reducible refine Chg.t0 ?_ (by with_reducible assumption)))) : Chg [] w3 w4); simp only at hnb ⊢; have r2 := hnb.1; clear hnb; obtain ⟨c0, cq⟩ := KK.out w4 hch2.out))
          all_goals
            clear hchd KK c0 cq
            have HI4 := Lib.hid (HI3.out.keep hch2.out (by simp))
            have KK : Hid (∀ w', Chg [] w4 w' → w'.cell? ⟨gi, 0, none⟩ = some (.int .i64 a) ∧ w'.cell? ⟨gi, 1, none⟩ = some (.int .i64 b)) := fun w' hc => ⟨(HI4.out.keep hc (by simp)).o5.1, (HI4.out.keep hc (by simp)).o5.2.1⟩
            obtain ⟨c0, c1⟩ := KK.out w4 (Chg.refl _ _)
            go_wp2_with (fail)
            go_region_held3 (fun w' => w'.cell? ⟨gi, 0, none⟩ = some (.int .i64 a) ∧ w'.cell? ⟨gi, 1, none⟩ = some (.int .i64 b)) (first | go_keep | exact KK.out _ (by repeat' (first | (with_reducible assumption) | (with_reducible exact Chg.refl _ _) | (with_reducible refine Chg.alloc ?_ _) | (with_reducible refine Chg.drewN ?_ _) | (with_reducible refine Chg.drew ?_) | (with_reducible refine Chg.strW ?_ _ _) | (with_reducible refine Chg.t0 ?_ (by with_reducible assumption)))) | fail) (fail)
            all_goals
              go_wp2_with (fail)
              have q4 : Hid (Chg [] w4 (w4.alloc (.cells #[.int .i64 a, .int .i64 b, .slice A2 E.length c2'] 63)).drew) := ((Chg.refl [] w4).alloc _).drew
              have rm : Hid (Rd (w4.alloc (.cells #[.int .i64 a, .int .i64 b, .slice A2 E.length c2'] 63)).drew 3 (some ⟨w4.heap.size, 0, none⟩) 1 (cMg [⟨a, b, E, A2, c2'⟩])) := (Rd.new' rfl rfl rfl : Rd (w4.alloc (.cells #[.int .i64 a, .int .i64 b, .slice A2 E.length c2'] 63)) 3 (some ⟨w4.heap.size, 0, none⟩) 1 (cMg [⟨a, b, E, A2, c2'⟩])).keep0 ((Chg.refl [] _).drew)
              go_ret2
              rw [HE.out]
              refine ⟨some ⟨w4.heap.size, 0, none⟩, 1, [⟨a, b, E, A2, c2'⟩], rfl, ⟨rfl, rm.out, fun x hx => ?_⟩, HI4.out.keep q4.out (by simp), (hc3.out.trans hch2.out (by simp)).trans q4.out (by simp)⟩
              obtain rfl := List.mem_singleton.1 hx
              exact r2.keep0 q4.out
end Go.Proofs.Ytdfkednggjelcaa
