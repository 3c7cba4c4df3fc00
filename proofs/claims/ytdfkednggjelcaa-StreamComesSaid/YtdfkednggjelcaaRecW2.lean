
/-
  bytes.Equal; rec.Same; the reference's Version, Is, SameV, Same.
-/
import Derived.Test.YtdfkednggjelcaaRecW
namespace Go.Proofs.Ytdfkednggjelcaa
open Go.RowKit

/-! ### Same -/

/-- A version of the reference's: is it one? -/
def isV (m c vo : Int) (val : List UInt8) (gone : Bool) (ttl : Int) : Bool := isS m c && decide (0 ≤ vo) && decide (vo < 5) && decide (val.length ≤ 1024) && decide (0 ≤ ttl) && decide (ttl ≤ 281474976710655) && (!gone || (decide (val.length = 0) && decide (ttl = 0)))
theorem isR_V (o q : Int) (key : List UInt8) (m c vo : Int) (val : List UInt8) (gone : Bool) (ttl : Int) :
    isR ⟨o, q, key, m, c, vo, val, gone, ttl⟩ = (isV m c vo val gone ttl && decide (vo = o) && decide (1 ≤ q) && decide (q ≤ 1099511627776) && decide (1 ≤ key.length) && decide (key.length ≤ 64)) := by
  unfold isR isV
  by_cases h : vo = o
  · subst h
    simp only [decide_true, Bool.and_true]
    rw [Bool.eq_iff_iff]
    simp only [Bool.and_eq_true]
    constructor
    · rintro ⟨⟨⟨⟨⟨⟨⟨⟨⟨⟨h1, h2⟩, h3⟩, h4⟩, h5⟩, h6⟩, h7⟩, h9⟩, h10⟩, h11⟩, h12⟩; exact ⟨⟨⟨⟨⟨⟨⟨⟨⟨⟨h1, h2⟩, h3⟩, h9⟩, h10⟩, h11⟩, h12⟩, h4⟩, h5⟩, h6⟩, h7⟩
    · rintro ⟨⟨⟨⟨⟨⟨⟨⟨⟨⟨h1, h2⟩, h3⟩, h9⟩, h10⟩, h11⟩, h12⟩, h4⟩, h5⟩, h6⟩, h7⟩; exact ⟨⟨⟨⟨⟨⟨⟨⟨⟨⟨h1, h2⟩, h3⟩, h4⟩, h5⟩, h6⟩, h7⟩, h9⟩, h10⟩, h11⟩, h12⟩
  · simp [h]

theorem len_le (l : List UInt8) (k : Nat) : decide (l.length ≤ k) = decide ((l.length : Int) ≤ (k : Int)) := by
  by_cases h : l.length ≤ k
  · rw [decide_eq_true h, decide_eq_true (Int.ofNat_le.2 h)]
  · rw [decide_eq_false h, decide_eq_false (fun h2 => h (Int.ofNat_le.1 h2))]

theorem len_z (l : List UInt8) : decide (l.length = 0) = decide ((l.length : Int) = 0) := by
  by_cases h : l.length = 0
  · rw [decide_eq_true h, decide_eq_true (by omega)]
  · rw [decide_eq_false h, decide_eq_false (by omega)]

set_option maxRecDepth 100000 in
set_option maxHeartbeats 3200000 in
theorem refVersion_any (w : World) (m c vo : Int) (A : Option Addr) (val : List UInt8) (cp : Nat) (gone : Bool) (ttl : Int) :
    Calls Try.prog 44 #[.agg #[.int .i64 m, .int .i64 c, .int .i64 vo, .slice A val.length cp, .bool gone, .int .i64 ttl]] w fun e w' =>
      e = .returned (.bool (isV m c vo val gone ttl)) ∧ Chg [] w w' := by
  have hb := At.new w 49 #[.int .i64 m, .int .i64 c, .int .i64 vo, .slice A val.length cp, .bool gone, .int .i64 ttl]
  have hch0 : Chg [] w (w.alloc (.cells #[.int .i64 m, .int .i64 c, .int .i64 vo, .slice A val.length cp, .bool gone, .int .i64 ttl] 49)) := (Chg.refl _ _).alloc _
  cases hs : isS m c with
  | false =>
    have HS := Lib.hid hs
    clear hs
    go_enter Try.func44, Try.ntmps44
    go_wp2_with (go_at_call 62; refine (refIs_no _ _ _ HS.out).mono ?_; rintro e w1 ⟨rfl, hch1⟩)
    go_ret
    exact ⟨ret_bool (by simp [isV, HS.out]), hch0.trans hch1 (by simp)⟩
  | true =>
    have HS := Lib.hid hs
    clear hs
    go_enter Try.func44, Try.ntmps44
    go_wp2_with (fail)
    refine (refIs_yes _ _ _ HS.out).mono ?_
    rintro e w1 ⟨rfl, hch1⟩
    have h1 := hb.keep hch1 (by simp)
    have c2 := h1.cell 2
    have c3 := h1.cell 3
    have c4 := h1.cell 4
    have c5 := h1.cell 5
    go_wp2_with (fail)
    all_goals
      go_ret
      refine ⟨ret_bool ?_, hch0.trans hch1 (by simp)⟩
      unfold isV
      rw [HS.out, len_le, len_z]
      first
        | (simp [*]; done)
        | (simp [*]; omega)
        | (by_cases ht : ttl = 0 <;> simp [*] <;> omega)
        | (have hz : ¬ ((val.length : Int) ≤ (1024 : Nat)) := by omega
           rw [decide_eq_false hz]; simp; done)
        | (have hz : ¬ ((val.length : Int) = 0) := by omega
           rw [decide_eq_false hz]; simp; done)
        | (symm; rw [Bool.eq_false_iff]; intro hT; simp [*] at hT; omega)
        | trace_state

set_option maxRecDepth 100000 in
set_option maxHeartbeats 3200000 in
theorem refIsR_any (w : World) (o q : Int) (key : List UInt8) (m c vo : Int) (A : Option Addr) (val : List UInt8) (cp : Nat) (gone : Bool) (ttl : Int) :
    Calls Try.prog 22 #[.agg #[.int .i64 o, .int .i64 q, .string ⟨key.toArray⟩, .int .i64 m, .int .i64 c, .int .i64 vo, .slice A val.length cp, .bool gone, .int .i64 ttl]] w fun e w' =>
      e = .returned (.bool (isR ⟨o, q, key, m, c, vo, val, gone, ttl⟩)) ∧ Chg [] w w' := by
  have hb := At.new w 51 #[.int .i64 o, .int .i64 q, .string ⟨key.toArray⟩, .int .i64 m, .int .i64 c, .int .i64 vo, .slice A val.length cp, .bool gone, .int .i64 ttl]
  have hch0 : Chg [] w (w.alloc (.cells #[.int .i64 o, .int .i64 q, .string ⟨key.toArray⟩, .int .i64 m, .int .i64 c, .int .i64 vo, .slice A val.length cp, .bool gone, .int .i64 ttl] 51)) := (Chg.refl _ _).alloc _
  go_enter Try.func22, Try.ntmps22
  go_wp2_with (fail)
  refine (refVersion_any _ m c vo A val cp gone ttl).mono ?_
  rintro e w1 ⟨rfl, hch1⟩
  have h1 := hb.keep hch1 (by simp)
  have c0 := h1.cell 0
  have c1 := h1.cell 1
  have c2 := h1.cell 2
  have c5 := h1.cell 5
  obtain ⟨V, HV⟩ : ∃ V, Hid (isV m c vo val gone ttl = V) := ⟨_, rfl⟩
  have e1 : Hid (isR ⟨o, q, key, m, c, vo, val, gone, ttl⟩ = (V && decide (vo = o) && decide (1 ≤ q) && decide (q ≤ 1099511627776) && decide (1 ≤ (key.length : Int)) && decide ((key.length : Int) ≤ (64 : Nat)))) := by
    have e2 : decide (1 ≤ key.length) = decide (1 ≤ (key.length : Int)) := by
      by_cases h : 1 ≤ key.length
      · rw [decide_eq_true h, decide_eq_true (by omega)]
      · rw [decide_eq_false h, decide_eq_false (by omega)]
    unfold Hid
    rw [isR_V, HV.out, e2, len_le]
  rw [HV.out]
  cases V
  · go_wp2_with (fail)
    go_ret
    exact ⟨ret_bool (by rw [e1.out]; simp), hch0.trans hch1 (by simp)⟩
  · have E2 : Hid (∀ b : Bool, (vo = o → b = (decide (1 ≤ q) && decide (q ≤ 1099511627776) && decide (1 ≤ (key.length : Int)) && decide ((key.length : Int) ≤ (64 : Nat)))) → (vo ≠ o → b = false) → b = isR ⟨o, q, key, m, c, vo, val, gone, ttl⟩) := by
      intro b h1 h2
      rw [e1.out]
      by_cases hvo : vo = o
      · rw [h1 hvo]; simp [hvo]
      · rw [h2 hvo]; simp [hvo]
    clear e1
    by_cases hvo : vo = o
    · subst hvo
      go_wp2_with (fail)
      all_goals
        go_ret
        refine ⟨ret_bool ?_, hch0.trans hch1 (by simp)⟩
        refine E2.out _ (fun _ => ?_) (fun h => absurd rfl h)
        first
          | (simp [*]; done)
          | (simp [*]; omega)
          | (symm; rw [Bool.eq_false_iff]; intro hT; simp [*] at hT; omega)
          | trace_state
    · have hvb : (vo == o) = false := beq_eq_false_iff_ne.2 hvo
      have Hvo := Lib.hid hvo
      clear hvo
      go_wp2_with (fail)
      go_ret
      exact ⟨ret_bool (E2.out _ (fun h => absurd h Hvo.out) (fun _ => rfl)), hch0.trans hch1 (by simp)⟩

/-- Two versions. -/
def sameVB (m c vo : Int) (val : List UInt8) (gone : Bool) (ttl : Int) (m' c' vo' : Int) (val' : List UInt8) (gone' : Bool) (ttl' : Int) : Bool :=
  decide (m = m') && decide (c = c') && decide (vo = vo') && decide (val = val') && (gone == gone') && decide (ttl = ttl')
theorem sameR_V (o q : Int) (key : List UInt8) (m c vo : Int) (val : List UInt8) (gone : Bool) (ttl : Int) (o' q' : Int) (key' : List UInt8) (m' c' vo' : Int) (val' : List UInt8) (gone' : Bool) (ttl' : Int) :
    sameR ⟨o, q, key, m, c, vo, val, gone, ttl⟩ ⟨o', q', key', m', c', vo', val', gone', ttl'⟩ = (decide (o = o') && decide (q = q') && decide (key = key') && sameVB m c vo val gone ttl m' c' vo' val' gone' ttl') := by
  simp [sameR, sameVB, Bool.and_assoc]

set_option maxRecDepth 100000 in
set_option maxHeartbeats 3200000 in
theorem refSameV_any (w : World) (m c vo : Int) (A : Option Addr) (val : List UInt8) (cp : Nat) (gone : Bool) (ttl : Int)
    (m' c' vo' : Int) (A' : Option Addr) (val' : List UInt8) (cp' : Nat) (gone' : Bool) (ttl' : Int) (hx : Rd w 1 A val.length (cB val)) (hy : Rd w 1 A' val'.length (cB val')) :
    Calls Try.prog 52 #[.agg #[.int .i64 m, .int .i64 c, .int .i64 vo, .slice A val.length cp, .bool gone, .int .i64 ttl],
        .agg #[.int .i64 m', .int .i64 c', .int .i64 vo', .slice A' val'.length cp', .bool gone', .int .i64 ttl']] w fun e w' =>
      e = .returned (.bool (sameVB m c vo val gone ttl m' c' vo' val' gone' ttl')) ∧ Chg [] w w' := by
  by_cases h1 : m = m'
  · by_cases h2 : c = c'
    · by_cases h3 : vo = vo'
      · subst h1 h2 h3
        have k1 := run_str (P := Try.prog) ((w.alloc (.cells #[.int .i64 m, .int .i64 c, .int .i64 vo, .slice A val.length cp, .bool gone, .int .i64 ttl] 49)).alloc (.cells #[.int .i64 m, .int .i64 c, .int .i64 vo, .slice A' val'.length cp', .bool gone', .int .i64 ttl'] 49)) 47 9 5 Try.underlying47 Try.underlying5 Try.underlying9 A val.length cp val rfl ((hx.alloc _).alloc _)
        have k2 := run_str (P := Try.prog) ((w.alloc (.cells #[.int .i64 m, .int .i64 c, .int .i64 vo, .slice A val.length cp, .bool gone, .int .i64 ttl] 49)).alloc (.cells #[.int .i64 m, .int .i64 c, .int .i64 vo, .slice A' val'.length cp', .bool gone', .int .i64 ttl'] 49)) 47 9 5 Try.underlying47 Try.underlying5 Try.underlying9 A' val'.length cp' val' rfl ((hy.alloc _).alloc _)
        clear hx hy
        go_enter Try.func52, Try.ntmps52
        go_wp2_with (fail)
        all_goals
          go_ret
          refine ⟨ret_bool ?_, by first | exact ((Chg.refl _ _).alloc _).alloc _⟩
          first
            | (simp [sameVB, *]; done)
            | (by_cases ht : ttl = ttl' <;> simp [sameVB, *])
            | trace_state
      · subst h1 h2
        clear hx hy
        go_enter Try.func52, Try.ntmps52
        go_wp2_with (fail)
        all_goals
          go_ret
          refine ⟨ret_bool ?_, by first | exact ((Chg.refl _ _).alloc _).alloc _⟩
          first
            | (simp [sameVB, *]; done)
            | (by_cases ht : ttl = ttl' <;> simp [sameVB, *])
            | trace_state
    · subst h1
      clear hx hy
      go_enter Try.func52, Try.ntmps52
      go_wp2_with (fail)
      all_goals
        go_ret
        refine ⟨ret_bool ?_, by first | exact ((Chg.refl _ _).alloc _).alloc _⟩
        first
          | (simp [sameVB, *]; done)
          | (by_cases ht : ttl = ttl' <;> simp [sameVB, *])
          | trace_state
  · clear hx hy
    go_enter Try.func52, Try.ntmps52
    go_wp2_with (fail)
    all_goals
      go_ret
      refine ⟨ret_bool ?_, by first | exact ((Chg.refl _ _).alloc _).alloc _⟩
      first
        | (simp [sameVB, *]; done)
        | (by_cases ht : ttl = ttl' <;> simp [sameVB, *])
        | trace_state

set_option maxRecDepth 100000 in
set_option maxHeartbeats 3200000 in
theorem refSame_any (w : World) (o q : Int) (key : List UInt8) (m c vo : Int) (A : Option Addr) (val : List UInt8) (cp : Nat) (gone : Bool) (ttl : Int)
    (o' q' : Int) (key' : List UInt8) (m' c' vo' : Int) (A' : Option Addr) (val' : List UInt8) (cp' : Nat) (gone' : Bool) (ttl' : Int) (hx : Rd w 1 A val.length (cB val)) (hy : Rd w 1 A' val'.length (cB val')) :
    Calls Try.prog 40 #[.agg #[.int .i64 o, .int .i64 q, .string ⟨key.toArray⟩, .int .i64 m, .int .i64 c, .int .i64 vo, .slice A val.length cp, .bool gone, .int .i64 ttl],
        .agg #[.int .i64 o', .int .i64 q', .string ⟨key'.toArray⟩, .int .i64 m', .int .i64 c', .int .i64 vo', .slice A' val'.length cp', .bool gone', .int .i64 ttl']] w fun e w' =>
      e = .returned (.bool (sameR ⟨o, q, key, m, c, vo, val, gone, ttl⟩ ⟨o', q', key', m', c', vo', val', gone', ttl'⟩)) ∧ Chg [] w w' := by
  have Hx := Lib.hid hx
  have Hy := Lib.hid hy
  clear hx hy
  go_enter Try.func40, Try.ntmps40
  go_wp2_with (go_at_call 52; refine (refSameV_any _ _ _ _ _ val _ _ _ _ _ _ _ val' _ _ _ ((Hx.out.alloc _).alloc _) ((Hy.out.alloc _).alloc _)).mono ?_; rintro e w1 ⟨rfl, hch1⟩)
  all_goals
    go_ret
    refine ⟨ret_bool ?_, by first | exact ((Chg.refl _ _).alloc _).alloc _ | exact (((Chg.refl _ _).alloc _).alloc _).trans hch1 (by simp)⟩
    rw [sameR_V]
    first
      | (simp [*]; done)
      | trace_state
end Go.Proofs.Ytdfkednggjelcaa
