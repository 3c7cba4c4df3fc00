/-
  PLAIN: rows whose bytes are cut short.
-/
import Derived.Test.YtghabhhnhalpgaaRows1
namespace Go.Proofs.Ytghabhhnhalpgaa

/-- The bytes of a number that are cut short are none. -/
theorem dec_prefix {n : Nat} (hn : n ≤ 4611686018427387904) {p s : List UInt8} (h : enc n = p ++ s) (hs : s ≠ []) : dec p = none := by
  cases hd : dec p with
  | none => rfl
  | some x =>
    obtain ⟨m, q⟩ := x
    obtain ⟨h1, h2⟩ := dec_some hd
    have h3 := dec_enc hn []
    have h4 := dec_enc h2 (q ++ s)
    rw [List.append_nil, h, h1, List.append_assoc, h4] at h3
    simp at h3
    exact absurd h3.2.2 hs
theorem takeRow_short {r X : List UInt8} {m : Nat} (hr : r.length ≤ 1099511627776) (hm : m < (enc r.length ++ r).length) : takeRow ((enc r.length ++ r ++ X).take m) false = ([], [], true) := by
  have e : (enc r.length ++ r ++ X).take m = (enc r.length ++ r).take m := List.take_append_of_le_length (by omega)
  rw [e]
  by_cases h : m < (enc r.length).length
  · have e2 : (enc r.length ++ r).take m = (enc r.length).take m := List.take_append_of_le_length (by omega)
    rw [e2]
    have hd : dec ((enc r.length).take m) = none := dec_prefix (n := r.length) (by omega) (s := (enc r.length).drop m) (by simp) (by intro h2; have := congrArg List.length h2; simp at this; omega)
    unfold takeRow
    rw [take_none hd]
    rfl
  · have e2 : (enc r.length ++ r).take m = enc r.length ++ r.take (m - (enc r.length).length) := by
      rw [List.take_append]
      rw [List.take_of_length_le (by omega)]
    rw [e2]
    unfold takeRow
    rw [take_some (dec_enc (by omega) _)]
    simp only [List.length_append] at hm
    unfold takeRaw
    rw [if_neg (by simp; omega)]
theorem takeRow_bad : takeRow [] true = ([], [], true) := rfl

/-- Where the first k rows end. -/
def endAt (rows : List (List UInt8)) (k : Nat) : Nat := (encRows (rows.take k)).length
theorem endAt_succ {rows : List (List UInt8)} {k : Nat} (h : k < rows.length) : endAt rows (k + 1) = endAt rows k + (enc rows[k].length ++ rows[k]).length := by
  unfold endAt
  rw [List.take_succ_eq_append_getElem h, encRows_snoc, List.length_append]
/-- What a Reader of the first 'cut' bytes has left behind k rows. -/
def cutSt (rows : List (List UInt8)) (cut k : Nat) : List UInt8 × Bool :=
  if endAt rows k ≤ cut then ((encRows (rows.drop k)).take (cut - endAt rows k), false) else ([], true)
theorem cutSt_zero (rows : List (List UInt8)) (cut : Nat) : cutSt rows cut 0 = ((encRows rows).take cut, false) := by simp [cutSt, endAt, encRows]
theorem cutSt_step {rows : List (List UInt8)} {cut k : Nat} (h : k < rows.length) (hr : rows[k].length ≤ 1099511627776) :
    takeRow (cutSt rows cut k).1 (cutSt rows cut k).2 = ((if endAt rows (k + 1) ≤ cut then rows[k] else []), (cutSt rows cut (k + 1)).1, (cutSt rows cut (k + 1)).2) := by
  have hs := endAt_succ h
  have hd : encRows (rows.drop k) = enc rows[k].length ++ rows[k] ++ encRows (rows.drop (k + 1)) := by rw [List.drop_eq_getElem_cons h, encRows_cons]
  unfold cutSt
  by_cases h1 : endAt rows (k + 1) ≤ cut
  · rw [if_pos (show endAt rows k ≤ cut by omega), if_pos h1, if_pos h1]
    simp only
    rw [hd, List.take_append, List.take_of_length_le (by omega), takeRow_enc hr]
    congr 2
    congr 1
    omega
  · rw [if_neg h1, if_neg h1]
    by_cases h2 : endAt rows k ≤ cut
    · rw [if_pos h2]
      simp only
      rw [hd, takeRow_short hr (by omega)]
    · rw [if_neg h2]
      rfl
end Go.Proofs.Ytghabhhnhalpgaa
