
/-
  Merged by merge.py: WirP, OpenW.
-/
import Derived.Test.YtdfkednggjelcaaRecP
import Derived.Test.YtdfkednggjelcaaFraP
import Derived.Test.YtdfkednggjelcaaMFra
import Derived.Test.YtdfkednggjelcaaOpenR
import Derived.Test.YtdfkednggjelcaaRecS
namespace Go.Proofs.Ytdfkednggjelcaa
open Go.RowKit

/-- A word. -/
structure Wd where
  k : Int
  o : Int
  q : Int
  sm : Int
  sc : Int
  fm : Int
  fc : Int
  rs : List Rc
def Wd.z : Wd := ⟨0, 0, 0, 0, 0, 0, 0, []⟩
/-- Records of one place, that go on by one each. -/
def goesL (o : Int) : Int → List Rc → Bool
  | _, [] => true
  | q, r :: l => (isR r && decide (r.o = o) && decide (r.q = q)) && goesL o (q + 1) l
theorem goesL_iff {o : Int} : ∀ {l : List Rc} {q : Int}, goesL o q l = true ↔ ∀ (i : Nat) (h : i < l.length), isR l[i] = true ∧ l[i].o = o ∧ l[i].q = q + i := by
  intro l
  induction l with
  | nil => intro q; simp [goesL]
  | cons r l ih =>
    intro q
    simp only [goesL, Bool.and_eq_true, decide_eq_true_eq]
    rw [ih]
    constructor
    · rintro ⟨⟨⟨h1, h2⟩, h3⟩, h4⟩ i hi
      cases i with
      | zero => exact ⟨h1, h2, by simp [h3]⟩
      | succ i =>
        obtain ⟨a, b, c⟩ := h4 i (by simpa using hi)
        refine ⟨a, b, ?_⟩
        simp only [List.getElem_cons_succ]
        rw [c]; simp; omega
    · intro h
      obtain ⟨a, b, c⟩ := h 0 (by simp)
      refine ⟨⟨⟨a, b⟩, by simpa using c⟩, fun i hi => ?_⟩
      obtain ⟨a, b, c⟩ := h (i + 1) (by simpa using hi)
      refine ⟨a, b, ?_⟩
      simp only [List.getElem_cons_succ] at c
      rw [c]; simp; omega
theorem goesL_mem {o q : Int} {l : List Rc} (h : goesL o q l = true) : ∀ r ∈ l, IsR r := by
  intro r hr
  obtain ⟨i, hi, rfl⟩ := List.getElem_of_mem hr
  exact isR_iff.1 (goesL_iff.1 h i hi).1
theorem goesL_no {o q : Int} {l : List Rc} {i : Nat} (hi : i < l.length) (h : isR l[i] = false ∨ l[i].o ≠ o ∨ l[i].q ≠ q + i) : goesL o q l = false := by
  cases hg : goesL o q l with
  | false => rfl
  | true =>
    obtain ⟨a, b, c⟩ := goesL_iff.1 hg i hi
    rcases h with h | h | h
    · rw [h] at a; cases a
    · exact absurd b h
    · exact absurd c h
/-- May a word have these? -/
def goesW (x : Wd) : Bool := goesL x.o x.q x.rs && decide (1 ≤ x.rs.length) && decide (x.rs.length ≤ 64)
def noneW (x : Wd) : Bool := decide (x.sm = 0) && decide (x.sc = 0) && decide (x.fm = 0) && decide (x.fc = 0)
def headW (x : Wd) : Bool := decide (0 ≤ x.o) && decide (x.o < 5) && decide (0 ≤ x.q) && decide (x.q ≤ 1099511627776)
/-- Is it a word? -/
def isW (x : Wd) : Bool := headW x && (if x.k = 1 then noneW x && goesW x else if x.k = 2 then noneW x && decide (x.rs = []) else if x.k = 3 then isS x.sm x.sc && isS x.fm x.fc && decide (x.rs = []) else false)
def numsW (x : Wd) : List UInt8 := encs ([x.k, x.o, x.q].map clamp)
def stmpW (x : Wd) : List UInt8 := encs ([x.sm, x.sc, x.fm, x.fc].map clamp)
/-- Its bytes, bare. -/
def bodyW (x : Wd) : List UInt8 := if x.k = 1 then numsW x ++ encL x.rs else if x.k = 3 then numsW x ++ stmpW x else numsW x
def encW (x : Wd) : List UInt8 × Nat := if isW x then (encF (bodyW x), 0) else ([], 1)
/-- What is read of bare bytes: the word; was it read whole? -/
def readW (p : List UInt8) : Wd × Bool :=
  if numAt p false 0 = 1 then (⟨1, numAt p false 1, numAt p false 2, 0, 0, 0, 0, (decL (numsSt p false 3).1).getD []⟩, !(numsSt p false 3).2 && (decL (numsSt p false 3).1).isSome)
  else if numAt p false 0 = 3 then (⟨3, numAt p false 1, numAt p false 2, numAt (numsSt p false 3).1 (numsSt p false 3).2 0, numAt (numsSt p false 3).1 (numsSt p false 3).2 1, numAt (numsSt p false 3).1 (numsSt p false 3).2 2, numAt (numsSt p false 3).1 (numsSt p false 3).2 3, []⟩,
    !(numsSt (numsSt p false 3).1 (numsSt p false 3).2 4).2 && decide ((numsSt (numsSt p false 3).1 (numsSt p false 3).2 4).1 = []))
  else (⟨numAt p false 0, numAt p false 1, numAt p false 2, 0, 0, 0, 0, []⟩, !(numsSt p false 3).2 && decide ((numsSt p false 3).1 = []))
/-- The word that bytes are; the error. -/
def decW (L : List UInt8) : Wd × Nat := if (oneF L).2 ≠ 0 then (Wd.z, (oneF L).2) else if (readW (oneF L).1).2 && isW (readW (oneF L).1).1 then ((readW (oneF L).1).1, 0) else (Wd.z, 3)

/-! ### What is read is what was written -/

theorem pe3 {α β : Type} {p : α × β × Bool} (h : p.2.2 = false) : p = (p.1, p.2.1, false) := by rw [← h]
theorem pe2 {α : Type} {p : α × Bool} (h : p.2 = false) : p = (p.1, false) := by rw [← h]

theorem clamp_le' (v : Int) : clamp v ≤ 4611686018427387904 := clamp_le v
theorem clamp_id {v : Int} (h0 : 0 ≤ v) (h1 : v ≤ 4611686018427387904) : (clamp v : Int) = v := by
  obtain ⟨n, rfl⟩ := Int.eq_ofNat_of_zero_le h0
  rw [clamp_nat (by omega)]
theorem enc3 (a b c : Nat) (X : List UInt8) : encs [a, b, c] ++ X = enc a ++ (enc b ++ (enc c ++ X)) := by simp [encs]
theorem enc4 (a b c d : Nat) (X : List UInt8) : encs [a, b, c, d] ++ X = enc a ++ (enc b ++ (enc c ++ (enc d ++ X))) := by simp [encs]
theorem read3 {a b c : Nat} (ha : a ≤ 4611686018427387904) (hb : b ≤ 4611686018427387904) (hc : c ≤ 4611686018427387904) (X : List UInt8) :
    numAt (encs [a, b, c] ++ X) false 0 = a ∧ numAt (encs [a, b, c] ++ X) false 1 = b ∧ numAt (encs [a, b, c] ++ X) false 2 = c ∧ numsSt (encs [a, b, c] ++ X) false 3 = (X, false) := by
  rw [enc3]
  simp only [numAt, numsSt, takeNum_enc ha, takeNum_enc hb, takeNum_enc hc, and_self]
theorem read4 {a b c d : Nat} (ha : a ≤ 4611686018427387904) (hb : b ≤ 4611686018427387904) (hc : c ≤ 4611686018427387904) (hd : d ≤ 4611686018427387904) (X : List UInt8) :
    numAt (encs [a, b, c, d] ++ X) false 0 = a ∧ numAt (encs [a, b, c, d] ++ X) false 1 = b ∧ numAt (encs [a, b, c, d] ++ X) false 2 = c ∧ numAt (encs [a, b, c, d] ++ X) false 3 = d ∧ numsSt (encs [a, b, c, d] ++ X) false 4 = (X, false) := by
  rw [enc4]
  simp only [numAt, numsSt, takeNum_enc ha, takeNum_enc hb, takeNum_enc hc, takeNum_enc hd, and_self]
theorem numsSt_good {L X : List UInt8} {b : Bool} : ∀ {k : Nat}, numsSt L b k = (X, false) → b = false ∧ L = encs ((List.range k).map (numAt L b)) ++ X ∧ ∀ j, j < k → numAt L b j ≤ 4611686018427387904 := by
  intro k
  induction k generalizing X with
  | zero => intro h; simp only [numsSt, Prod.mk.injEq] at h; obtain ⟨rfl, rfl⟩ := h; simp [encs]
  | succ k ih =>
    intro h
    have h0 : (takeNum (numsSt L b k).1 (numsSt L b k).2).2 = (X, false) := h
    have h1 : takeNum (numsSt L b k).1 (numsSt L b k).2 = (numAt L b k, X, false) := by
      rw [← h0]; rfl
    obtain ⟨h2, h3, h4⟩ := takeNum_good h1
    obtain ⟨h5, h6, h7⟩ := ih (X := (numsSt L b k).1) (pe2 h2)
    refine ⟨h5, ?_, fun j hj => ?_⟩
    · rw [List.range_succ, List.map_append, List.map_singleton]
      generalize (List.range k).map (numAt L b) = m at *
      generalize numAt L b k = n at *
      rw [h6, h3]
      simp [encs]
    · by_cases e : j = k
      · subst e; exact h4
      · exact h7 j (by omega)
structure IsW (x : Wd) : Prop where
  o0 : 0 ≤ x.o
  o5 : x.o < 5
  q0 : 0 ≤ x.q
  q1 : x.q ≤ 1099511627776
theorem isW_head {x : Wd} (h : isW x = true) : IsW x := by
  unfold isW headW at h
  simp only [Bool.and_eq_true, decide_eq_true_eq] at h
  exact ⟨h.1.1.1.1, h.1.1.1.2, h.1.1.2, h.1.2⟩
/-- The three kinds. -/
theorem isW_kind {x : Wd} (h : isW x = true) : (x.k = 1 ∧ noneW x = true ∧ goesW x = true) ∨ (x.k = 2 ∧ noneW x = true ∧ x.rs = []) ∨ (x.k = 3 ∧ isS x.sm x.sc = true ∧ isS x.fm x.fc = true ∧ x.rs = []) := by
  unfold isW at h
  rw [Bool.and_eq_true] at h
  have h2 := h.2
  split at h2
  · rename_i hk; rw [Bool.and_eq_true] at h2; exact .inl ⟨hk, h2⟩
  · split at h2
    · rename_i hk; rw [Bool.and_eq_true, decide_eq_true_eq] at h2; exact .inr (.inl ⟨hk, h2⟩)
    · split at h2
      · rename_i hk; rw [Bool.and_eq_true, Bool.and_eq_true, decide_eq_true_eq] at h2; exact .inr (.inr ⟨hk, h2.1.1, h2.1.2, h2.2⟩)
      · cases h2
theorem goesW_iff {x : Wd} : goesW x = true ↔ goesL x.o x.q x.rs = true ∧ 1 ≤ x.rs.length ∧ x.rs.length ≤ 64 := by
  unfold goesW; simp only [Bool.and_eq_true, decide_eq_true_eq, and_assoc]
theorem noneW_iff {x : Wd} : noneW x = true ↔ x.sm = 0 ∧ x.sc = 0 ∧ x.fm = 0 ∧ x.fc = 0 := by
  unfold noneW; simp only [Bool.and_eq_true, decide_eq_true_eq, and_assoc]
theorem encRows_small (l : List Rc) (h : ∀ r ∈ l, IsR r) : (encRows (l.map encR)).length ≤ 1200 * l.length := by
  induction l with
  | nil => simp [encRows]
  | cons r l ih =>
    have h1 := ih (fun q hq => h q (List.mem_cons_of_mem _ hq))
    have h2 := encR_small (h r (by simp))
    have h3 := enc_len9 (show (encR r).length ≤ 4611686018427387904 by omega)
    rw [List.map_cons, encRows_cons', List.length_append, List.length_append, List.length_cons]
    omega
theorem encs_len9 : ∀ (ns : List Nat), (∀ n ∈ ns, n ≤ 4611686018427387904) → (encs ns).length ≤ 9 * ns.length := by
  intro ns
  induction ns with
  | nil => simp [encs]
  | cons n ns ih =>
    intro h
    have h1 := enc_len9 (h n (by simp))
    have h2 := ih (fun m hm => h m (by simp [hm]))
    rw [encs_cons, List.length_append, List.length_cons]
    omega
theorem encs_clamp_len (vs : List Int) : (encs (vs.map clamp)).length ≤ 9 * vs.length := by
  have := encs_len9 (vs.map clamp) (by intro n hn; obtain ⟨v, _, rfl⟩ := List.mem_map.1 hn; exact clamp_le v)
  simpa using this
theorem encL_len (l : List Rc) (h : ∀ r ∈ l, IsR r) : (encL l).length ≤ 9 + 1200 * l.length := by
  unfold encL
  have h1 := encRows_small l h
  have h2 : (encs ([(l.length : Int)].map clamp)).length ≤ 9 := encs_clamp_len [(l.length : Int)]
  rw [List.length_append]
  omega
theorem bodyW_len {x : Wd} (h : isW x = true) : (bodyW x).length ≤ 77000 := by
  have h1 := encs_clamp_len [x.k, x.o, x.q]
  have h2 := encs_clamp_len [x.sm, x.sc, x.fm, x.fc]
  unfold bodyW numsW stmpW
  simp only [List.length_cons, List.length_nil] at h1 h2
  rcases isW_kind h with ⟨hk, _, hg⟩ | ⟨hk, _⟩ | ⟨hk, _⟩
  · obtain ⟨hg, _, h64⟩ := goesW_iff.1 hg
    have h3 := encL_len x.rs (goesL_mem hg)
    rw [if_pos hk, List.length_append]; omega
  · rw [if_neg (by omega), if_neg (by omega)]; omega
  · rw [if_neg (by omega), if_pos hk, List.length_append]; omega
/-- A word's bare bytes are read as the word. -/
theorem readW_body {x : Wd} (h : isW x = true) : readW (bodyW x) = (x, true) := by
  have hh := isW_head h
  obtain ⟨k, o, q, sm, sc, fm, fc, rs⟩ := x
  obtain ⟨h1, h2, h3, h4⟩ := hh
  simp only at h1 h2 h3 h4
  have ho := clamp_id h1 (by omega)
  have hq := clamp_id h3 (by omega)
  have hr := fun k : Int => fun X => read3 (clamp_le k) (clamp_le o) (clamp_le q) X
  rcases isW_kind h with ⟨hk, hn, hg⟩ | ⟨hk, hn, hrs⟩ | ⟨hk, hs, hf, hrs⟩
  · obtain ⟨hg2, h1, h64⟩ := goesW_iff.1 hg
    have hgl := goesL_mem hg2
    obtain ⟨e1, e2, e3, e4⟩ := noneW_iff.1 hn
    simp only at hk hgl h64 e1 e2 e3 e4
    subst hk e1 e2 e3 e4
    have hb : bodyW ⟨1, o, q, 0, 0, 0, 0, rs⟩ = encs [clamp 1, clamp o, clamp q] ++ encL rs := by simp [bodyW, numsW]
    obtain ⟨r0, r1, r2, r3⟩ := hr 1 (encL rs)
    rw [hb]
    unfold readW
    rw [r0, r1, r2, r3, if_pos (by decide), decL_enc hgl h64, ho, hq]
    rfl
  · simp only at hk hrs
    subst hk hrs
    obtain ⟨e1, e2, e3, e4⟩ := noneW_iff.1 hn
    simp only at e1 e2 e3 e4
    subst e1 e2 e3 e4
    have hb : bodyW ⟨2, o, q, 0, 0, 0, 0, []⟩ = encs [clamp 2, clamp o, clamp q] ++ [] := by simp [bodyW, numsW]
    obtain ⟨r0, r1, r2, r3⟩ := hr 2 []
    rw [hb]
    unfold readW
    rw [r0, r1, r2, r3, if_neg (by decide), if_neg (by decide), ho, hq]
    rfl
  · simp only at hk hrs hs hf
    subst hk hrs
    obtain ⟨s0, s1, s2, s3⟩ := isS_iff.1 hs
    obtain ⟨f0, f1, f2, f3⟩ := isS_iff.1 hf
    have hb : bodyW ⟨3, o, q, sm, sc, fm, fc, []⟩ = encs [clamp 3, clamp o, clamp q] ++ (encs [clamp sm, clamp sc, clamp fm, clamp fc] ++ []) := by simp [bodyW, numsW, stmpW]
    obtain ⟨r0, r1, r2, r3⟩ := hr 3 (encs [clamp sm, clamp sc, clamp fm, clamp fc] ++ [])
    obtain ⟨t0, t1, t2, t3, t4⟩ := read4 (clamp_le sm) (clamp_le sc) (clamp_le fm) (clamp_le fc) []
    rw [hb]
    unfold readW
    rw [r0, r1, r2, r3, if_neg (by decide), if_pos (by decide)]
    simp only
    rw [t0, t1, t2, t3, t4, ho, hq, clamp_id s0 (by omega), clamp_id s2 (by omega), clamp_id f0 (by omega), clamp_id f2 (by omega)]
    rfl
theorem takeRs_good {k : Nat} : ∀ {L X : List UInt8} {b : Bool} {l : List Rc}, takeRs k L b = some (l, X, false) → b = false ∧ L = encRows (l.map encR) ++ X := by
  induction k with
  | zero => intro L X b l h; simp only [takeRs, Option.some.injEq, Prod.mk.injEq] at h; obtain ⟨rfl, rfl, rfl⟩ := h; simp [encRows]
  | succ k ih =>
    intro L X b l h
    rw [takeRs] at h
    cases hd : decR (takeRow L b).1 with
    | none => rw [hd] at h; cases h
    | some r =>
      rw [hd] at h
      simp only at h
      cases ht : takeRs k (takeRow L b).2.1 (takeRow L b).2.2 with
      | none => rw [ht] at h; cases h
      | some p =>
        obtain ⟨l1, X1, b1⟩ := p
        rw [ht] at h
        simp only [Option.some.injEq, Prod.mk.injEq] at h
        obtain ⟨rfl, rfl, rfl⟩ := h
        obtain ⟨h1, h2⟩ := ih ht
        have h3 : takeRow L b = ((takeRow L b).1, (takeRow L b).2.1, false) := pe3 h1
        obtain ⟨h4, h5, h6⟩ := takeRow_good h3
        refine ⟨h4, ?_⟩
        obtain ⟨_, h7⟩ := decR_some hd
        rw [List.map_cons, encRows_cons', ← h7, List.append_assoc, List.append_assoc, ← h2]
        exact h5
theorem decL_good {L : List UInt8} {l : List Rc} (h : decL L = some l) : L = encL l ∧ l.length ≤ 64 ∧ ∀ r ∈ l, IsR r := by
  unfold decL at h
  split at h
  · cases h
  · rename_i h64
    split at h
    · cases h
    · rename_i l' X b ht
      split at h
      · rename_i hb
        obtain ⟨rfl, rfl⟩ := hb
        simp only [Option.some.injEq] at h
        subst h
        obtain ⟨h1, h2⟩ := takeRs_good ht
        have h3 := takeRs_len ht
        have h4 : takeNum L false = ((takeNum L false).1, (takeNum L false).2.1, false) := pe3 h1
        obtain ⟨_, h5, _⟩ := takeNum_good h4
        refine ⟨?_, by omega, h3.2.2⟩
        unfold encL
        rw [List.map_singleton, clamp_nat (by omega), h3.1]
        rw [List.append_nil] at h2
        rw [← h2]
        simpa [encs] using h5
      · cases h
/-- What is read whole was written so. -/
theorem readW_good {p : List UInt8} (h : (readW p).2 = true) (hw : isW (readW p).1 = true) : bodyW (readW p).1 = p := by
  have key : ∀ X, numsSt p false 3 = (X, false) → p = encs [numAt p false 0, numAt p false 1, numAt p false 2] ++ X ∧ numAt p false 0 ≤ 4611686018427387904 ∧ numAt p false 1 ≤ 4611686018427387904 ∧ numAt p false 2 ≤ 4611686018427387904 := by
    intro X hX
    obtain ⟨_, h1, h2⟩ := numsSt_good hX
    exact ⟨h1, h2 0 (by omega), h2 1 (by omega), h2 2 (by omega)⟩
  generalize hx : readW p = y at h hw ⊢
  unfold readW at hx
  split at hx
  · rename_i hk
    subst hx
    simp only [Bool.and_eq_true, Bool.not_eq_true'] at h
    obtain ⟨hb, hd⟩ := h
    obtain ⟨l, hl⟩ := Option.isSome_iff_exists.1 hd
    obtain ⟨h1, h2, h3, h4⟩ := key (numsSt p false 3).1 (pe2 hb)
    simp only [bodyW, numsW, if_true, hl, Option.getD_some, List.map_cons, List.map_nil]
    rw [← (decL_good hl).1, clamp_nat h3, clamp_nat h4]
    rw [hk] at h1
    exact h1.symm
  · split at hx
    · rename_i hk
      subst hx
      simp only [Bool.and_eq_true, Bool.not_eq_true', decide_eq_true_eq] at h
      obtain ⟨hb, hd⟩ := h
      have h4 : numsSt (numsSt p false 3).1 (numsSt p false 3).2 4 = ([], false) := by rw [pe2 hb, hd]
      obtain ⟨h5, h6, h7⟩ := numsSt_good h4
      obtain ⟨h1, h2, h3, h8⟩ := key (numsSt p false 3).1 (pe2 h5)
      simp only [bodyW, numsW, stmpW, List.map_cons, List.map_nil]
      rw [if_neg (by omega), if_pos trivial, clamp_nat h3, clamp_nat h8, clamp_nat (h7 0 (by omega)), clamp_nat (h7 1 (by omega)), clamp_nat (h7 2 (by omega)), clamp_nat (h7 3 (by omega))]
      rw [hk] at h1
      rw [List.append_nil] at h6
      conv => rhs; rw [h1, h6]
      rfl
    · subst hx
      simp only [Bool.and_eq_true, Bool.not_eq_true', decide_eq_true_eq] at h
      obtain ⟨hb, hd⟩ := h
      obtain ⟨h1, h2, h3, h8⟩ := key [] (by rw [pe2 hb, hd])
      simp only [bodyW, numsW, List.map_cons, List.map_nil]
      rw [if_neg (by omega), if_neg (by omega), clamp_nat h2, clamp_nat h3, clamp_nat h8]
      rw [List.append_nil] at h1
      exact h1.symm
theorem oneF_enc {p : List UInt8} (hp : p.length ≤ 262144) : oneF (encF p) = (p, 0) := by
  have h := decF_enc hp []
  rw [List.append_nil] at h
  rw [oneF_0 (by rw [h]) (by rw [h, encF_len]), h]
theorem oneF_good {L : List UInt8} (h : (oneF L).2 = 0) : L = encF (oneF L).1 := by
  by_cases he : (decF L).e = 0
  · by_cases hn : (decF L).n = L.length
    · rw [oneF_0 he hn]
      have hg := good_of he
      have hd := decF_good hg
      rw [hd] at hn ⊢
      simp only at hn ⊢
      have hl : ((L.take (8 + ofFour L)).drop 8).length = ofFour L := by simp; omega
      unfold encF
      rw [hl]
      have e1 : headF (ofFour L) ++ (L.take (8 + ofFour L)).drop 8 = L.take (8 + ofFour L) := by
        rw [← hg.head]
        have : L.take 8 = (L.take (8 + ofFour L)).take 8 := by rw [List.take_take]; congr 1; omega
        rw [this, List.take_append_drop]
      rw [e1, ← hg.sum, four_ofFour (by simp; omega)]
      rw [List.take_of_length_le (l := L.drop (8 + ofFour L)) (by rw [List.length_drop]; omega), List.take_append_drop]
    · rw [oneF_3 he hn] at h; simp at h
  · rw [oneF_e he] at h; exact absurd h he
theorem decW_enc {x : Wd} (h : isW x = true) : decW (encF (bodyW x)) = (x, 0) := by
  unfold decW
  rw [oneF_enc (by have := bodyW_len h; omega), if_neg (by simp)]
  simp only [readW_body h]
  rw [h]; rfl
/-- What is taken is a word's bytes. -/
theorem decW_good {L : List UInt8} (h : (decW L).2 = 0) : isW (decW L).1 = true ∧ L = encF (bodyW (decW L).1) := by
  by_cases h1 : (oneF L).2 ≠ 0
  · unfold decW at h; rw [if_pos h1] at h; exact absurd h h1
  · have h2 := oneF_good (by simpa using h1)
    by_cases h3 : ((readW (oneF L).1).2 && isW (readW (oneF L).1).1) = true
    · have e : decW L = ((readW (oneF L).1).1, 0) := by unfold decW; rw [if_neg h1, if_pos h3]
      rw [Bool.and_eq_true] at h3
      rw [e]
      refine ⟨h3.2, ?_⟩
      simp only
      rw [readW_good h3.1 h3.2]
      exact h2
    · unfold decW at h; rw [if_neg h1, if_neg h3] at h; simp at h
theorem encF_inj {p q : List UInt8} (hp : p.length ≤ 262144) (hq : q.length ≤ 262144) (h : encF p = encF q) : p = q := by
  have h1 := oneF_enc hp
  rw [h, oneF_enc hq] at h1
  exact (Prod.mk.inj h1).1.symm
theorem encW_inj {x y : Wd} (hx : isW x = true) (hy : isW y = true) : encF (bodyW x) = encF (bodyW y) ↔ x = y := by
  constructor
  · intro h
    have h1 := decW_enc hx
    rw [h, decW_enc hy] at h1
    exact (Prod.mk.inj h1).1.symm
  · rintro rfl; rfl
/-- Of which one is another one: none. -/
theorem decW_see {x : Wd} (h : isW x = true) {i : Nat} {u v : UInt8} (hv : (encF (bodyW x))[i]? = some v) (hu : u ≠ v) : (decW ((encF (bodyW x)).set i u)).2 ≠ 0 ∧ (decW ((encF (bodyW x)).set i u)).1 = Wd.z := by
  have h1 := decF_see (p := bodyW x) (X := []) (by have := bodyW_len h; omega) hv hu
  rw [List.append_nil] at h1
  have h2 := oneF_e h1
  unfold decW
  rw [if_pos (by rw [h2]; exact h1), h2]
  exact ⟨h1, rfl⟩
/-- With something behind: none. -/
theorem decW_more {x : Wd} (h : isW x = true) {X : List UInt8} (hX : X ≠ []) : decW (encF (bodyW x) ++ X) = (Wd.z, 3) := by
  have h1 := decF_enc (p := bodyW x) (by have := bodyW_len h; omega) X
  have hl : 0 < X.length := List.length_pos_iff.2 hX
  have h2 := oneF_3 (L := encF (bodyW x) ++ X) (by rw [h1]) (by rw [h1, List.length_append, encF_len]; simp only; omega)
  unfold decW
  rw [h2]; rfl
theorem encW_no {x : Wd} (h : isW x = false) : encW x = ([], 1) := by unfold encW; rw [h]; rfl
theorem encW_yes {x : Wd} (h : isW x = true) : encW x = (encF (bodyW x), 0) := by unfold encW; rw [h]; rfl
end Go.Proofs.Ytdfkednggjelcaa
namespace Go.Proofs.Ytdfkednggjelcaa
open Go.Joins Go.ChangeShapes Go.WideShapes Go.ChangeAt Go.RowKit Go.Deep

section
variable {H : Type} {enc : TypeId × Value → H} {w : World} {base : Nat} {spare : Nat → Bool} {held : Bool}

/-- A word's cells; what its records are. -/
structure WdV where
  k : Int
  o : Int
  q : Int
  sm : Int
  sc : Int
  fm : Int
  fc : Int
  A : Option Addr
  ls : List RcV
  cp : Nat
def WdV.cells (x : WdV) : List Value := [.int .i64 x.k, .int .i64 x.o, .int .i64 x.q, .int .i64 x.sm, .int .i64 x.sc, .int .i64 x.fm, .int .i64 x.fc, .slice x.A x.ls.length x.cp]
def WdV.d (x : WdV) : Wd := ⟨x.k, x.o, x.q, x.sm, x.sc, x.fm, x.fc, x.ls.map RcV.r⟩
structure WdV.In (w : World) (x : WdV) : Prop where
  rd : Rd w 9 x.A x.ls.length (cRc x.ls)
  cap : x.ls.length ≤ x.cp
  capm : x.cp ≤ 9223372036854775807
  len : x.ls.length * 96 ≤ 140737488351232
  rs : ∀ r ∈ x.ls, r.In w
  k0 : -9223372036854775808 ≤ x.k
  k1 : x.k ≤ 9223372036854775807
  o0 : -9223372036854775808 ≤ x.o
  o1 : x.o ≤ 9223372036854775807
  q0 : -9223372036854775808 ≤ x.q
  q1 : x.q ≤ 9223372036854775807
  m0 : -9223372036854775808 ≤ x.sm
  m1 : x.sm ≤ 9223372036854775807
  c0 : -9223372036854775808 ≤ x.sc
  c1 : x.sc ≤ 9223372036854775807
  f0 : -9223372036854775808 ≤ x.fm
  f1 : x.fm ≤ 9223372036854775807
  g0 : -9223372036854775808 ≤ x.fc
  g1 : x.fc ≤ 9223372036854775807

theorem op_word : Op enc Try.prog w base spare held 90 WdV.cells (WdV.In w) := fun n c y hy hl => by
  obtain ⟨hlen, n', hf⟩ := Op.fields' Try.underlying90 hy hl
  have hC : Try.prog.cellsOf 90 = 8 := by kernel_rfl
  rw [hC] at hlen
  match c, hlen with
  | [x0, x1, x2, x3, x4, x5, x6, x7], _ =>
    obtain ⟨y0, t0, l0⟩ := hf 0 3 0 1 (by kernel_rfl)
    obtain ⟨y1, t1, l1⟩ := hf 1 3 1 1 (by kernel_rfl)
    obtain ⟨y2, t2, l2⟩ := hf 2 3 2 1 (by kernel_rfl)
    obtain ⟨y3, t3, l3⟩ := hf 3 46 3 2 (by kernel_rfl)
    obtain ⟨y4, t4, l4⟩ := hf 4 46 5 2 (by kernel_rfl)
    obtain ⟨y5, t5, l5⟩ := hf 5 25 7 1 (by kernel_rfl)
    simp only [List.drop_zero, List.drop_succ_cons, List.take_succ_cons, List.take_zero] at t0 t1 t2 t3 t4 t5
    obtain ⟨k, e0, w0⟩ := Op.int Try.underlying3 _ _ _ t0 l0
    obtain ⟨o, e1, w1⟩ := Op.int Try.underlying3 _ _ _ t1 l1
    obtain ⟨q, e2, w2⟩ := Op.int Try.underlying3 _ _ _ t2 l2
    obtain ⟨s, e3, w3, w4⟩ := trod_st Try.underlying46 Try.underlying3 Try.underlying3 (by kernel_rfl) (by kernel_rfl) t3
    obtain ⟨f, e4, w5, w6⟩ := trod_st Try.underlying46 Try.underlying3 Try.underlying3 (by kernel_rfl) (by kernel_rfl) t4
    obtain ⟨r, e5, h1, h2, h3, h4, h5⟩ := (Op.slice Try.underlying25 (size := 9) (bytes := 96) (by kernel_rfl) (by kernel_rfl) (by omega) (fun _ => rfl) op_rec) _ _ _ t5 l5
    simp only [List.cons.injEq, and_true] at e0 e1 e2 e3 e4 e5
    obtain ⟨rfl, rfl⟩ := e3
    obtain ⟨rfl, rfl⟩ := e4
    subst e0 e1 e2 e5
    obtain ⟨b1, b2⟩ := bounds_i64 w0
    obtain ⟨b3, b4⟩ := bounds_i64 w1
    obtain ⟨b5, b6⟩ := bounds_i64 w2
    obtain ⟨b7, b8⟩ := bounds_i64 w3
    obtain ⟨b9, b10⟩ := bounds_i64 w4
    obtain ⟨b11, b12⟩ := bounds_i64 w5
    obtain ⟨b13, b14⟩ := bounds_i64 w6
    exact ⟨⟨k, o, q, s.m, s.c, f.m, f.c, r.A, r.ls, r.c⟩, rfl, h1, h2, h3, h4, h5, b1, b2, b3, b4, b5, b6, b7, b8, b9, b10, b11, b12, b13, b14⟩
end
end Go.Proofs.Ytdfkednggjelcaa
