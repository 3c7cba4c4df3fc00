
/-
  rec.Encode; the reference's Encode.
-/
import Derived.Test.YtdfkednggjelcaaRecW2
import Derived.Test.YtdfkednggjelcaaMBase
import Derived.Test.YtdfkednggjelcaaMOct
import Derived.Test.YtdfkednggjelcaaMRef
import Derived.Deep.RegionHeld3
namespace Go.Proofs.Ytdfkednggjelcaa
open Go.RowKit
set_option linter.unusedVariables false

theorem cB_str (key : List UInt8) (cap : Nat) : ∀ (j : Nat) (u : Value), (cB key)[j]? = some u → (bytesRow ⟨key.toArray⟩ cap)[j]? = some u := by
  intro j u hu
  have hj : j < key.length := by
    have := (List.getElem?_eq_some_iff.1 hu).1
    simpa [cB_len] using this
  rw [cB_get hj] at hu
  rw [bytesRow_at _ _ j (by simpa using hj), ← hu]
  simp
theorem str_rd {w : World} {e : TypeId} {cap : Nat} {key : List UInt8} {fr : Nat × Nat} : Rd (w.alloc (.cells (bytesRow ⟨key.toArray⟩ cap) e fr)) 1 (some ⟨w.heap.size, 0, none⟩) key.length (cB key) :=
  ⟨by simp [cB_len], fun hn => ⟨_, rfl, by simp, fun j u hu => by
    have e : (⟨w.heap.size, 0, none⟩ : Addr).add j = ⟨w.heap.size, j, none⟩ := by unfold Addr.add; split <;> simp_all
    rw [e, World.cell?_alloc_mark]
    exact cB_str key cap j u hu⟩⟩

section
variable {P : Program} {w : World}
/-- '[]byte(s)': new memory that reads as the string's bytes. -/
theorem str_bytes (src dst e : TypeId) (hs : P.underlying src = some .string) (hd : P.underlying dst = some (.slice e)) (he : P.underlying e = some (.int .u8)) (key : List UInt8) :
    ∃ c w', (convert src dst (.string ⟨key.toArray⟩)).run P w = .ok (.slice (some ⟨w.heap.size, 0, none⟩) key.length c) w' ∧ Rd w' 1 (some ⟨w.heap.size, 0, none⟩) key.length (cB key) ∧ Chg [] w w' ∧ w.heap.size < w'.heap.size := by
  have e1 : (⟨key.toArray⟩ : ByteArray).size = key.length := by simp [ByteArray.size]
  have h := run_bytes_of_string w src dst e ⟨key.toArray⟩ hs hd he
  rw [e1] at h
  exact ⟨_, _, h, str_rd (w := w.drew), (((Chg.refl [] w).drew).alloc _), by simp⟩
/-- The capacity of '[]byte(s)', and the world behind it. -/
def strC (e : TypeId) (key : List UInt8) (w : World) : Nat := grownCap w key.length 0 e
def strW (e : TypeId) (key : List UInt8) (w : World) : World := w.drew.alloc (.cells (bytesRow ⟨key.toArray⟩ (grownCap w key.length 0 e)) e ((bytesRow ⟨key.toArray⟩ (grownCap w key.length 0 e)).size, (bytesRow ⟨key.toArray⟩ (grownCap w key.length 0 e)).size + 1))
theorem run_strW (src dst e : TypeId) (hs : P.underlying src = some .string) (hd : P.underlying dst = some (.slice e)) (he : P.underlying e = some (.int .u8)) (key : List UInt8) (w : World) :
    (convert src dst (.string ⟨key.toArray⟩)).run P w = .ok (.slice (some ⟨w.heap.size, 0, none⟩) key.length (strC e key w)) (strW e key w) := by
  have e1 : (⟨key.toArray⟩ : ByteArray).size = key.length := by simp [ByteArray.size]
  have h := run_bytes_of_string w src dst e ⟨key.toArray⟩ hs hd he
  rw [e1] at h
  exact h
theorem strW_size (e : TypeId) (key : List UInt8) (w : World) : (strW e key w).heap.size = w.heap.size + 1 := by simp [strW]
theorem Chg.strW {S : List Nat} {a w : World} (h : Chg S a w) (e : TypeId) (key : List UInt8) : Chg S a (Go.Proofs.Ytdfkednggjelcaa.strW e key w) := h.drew.alloc _
theorem strW_rd (e : TypeId) (key : List UInt8) (w : World) : Rd (strW e key w) 1 (some ⟨w.heap.size, 0, none⟩) key.length (cB key) := str_rd (w := w.drew)
theorem strW_rd' {e : TypeId} {key : List UInt8} {w : World} {g : Nat} (hg : g = w.heap.size) : Rd (strW e key w) 1 (some ⟨g, 0, none⟩) key.length (cB key) := by subst hg; exact strW_rd e key w
theorem Rd.strW {w : World} {size n : Nat} {A : Option Addr} {xs : List Value} (h : Rd w size A n xs) (e : TypeId) (key : List UInt8) : Rd (Go.Proofs.Ytdfkednggjelcaa.strW e key w) size A n xs := h.keep0 ((Chg.refl [] w).strW e key)
theorem strW_cell (e : TypeId) (key : List UInt8) (w : World) (b o : Nat) (h : b < w.heap.size) : (strW e key w).cell? ⟨b, o, none⟩ = w.cell? ⟨b, o, none⟩ := ((Chg.refl [] w).strW e key).cells.1 b o h
theorem strW_frozen (e : TypeId) (key : List UInt8) (w : World) (b o : Nat) (h : b < w.heap.size) : (strW e key w).frozen? ⟨b, o, none⟩ = w.frozen? ⟨b, o, none⟩ := ((Chg.refl [] w).strW e key).cells.2 b o h
end

set_option maxRecDepth 100000 in
set_option maxHeartbeats 3200000 in
theorem recEncode_no (w : World) (o q : Int) (key : List UInt8) (m c vo : Int) (A : Option Addr) (val : List UInt8) (cp : Nat) (gone : Bool) (ttl : Int) (h : isR ⟨o, q, key, m, c, vo, val, gone, ttl⟩ = false) :
    Calls Try.prog 73 #[.agg #[.int .i64 o, .int .i64 q, .string ⟨key.toArray⟩, .int .i64 m, .int .i64 c, .int .i64 vo, .slice A val.length cp, .bool gone, .int .i64 ttl]] w fun e w' =>
      e = .returned (.tuple #[.slice none 0 0, .int .i64 1]) ∧ Chg [] w w' := by
  have H := Lib.hid h
  clear h
  go_enter Try.func73, Try.ntmps73
  go_wp2_with (fail)
  refine (recIs_any _ o q key m c vo A val cp gone ttl).mono ?_
  rw [H.out]
  rintro e w1 ⟨rfl, hch1⟩
  go_wp2_with (fail)
  go_ret2
  exact ⟨rfl, ((Chg.refl _ _).alloc _).trans hch1 (by simp)⟩

set_option maxRecDepth 100000 in
set_option maxHeartbeats 3200000 in
theorem recEncode_yes (w : World) (o q : Int) (key : List UInt8) (m c vo : Int) (A : Option Addr) (val : List UInt8) (cp : Nat) (gone : Bool) (ttl : Int) (h : isR ⟨o, q, key, m, c, vo, val, gone, ttl⟩ = true) (hr : Rd w 1 A val.length (cB val)) :
    Calls Try.prog 73 #[.agg #[.int .i64 o, .int .i64 q, .string ⟨key.toArray⟩, .int .i64 m, .int .i64 c, .int .i64 vo, .slice A val.length cp, .bool gone, .int .i64 ttl]] w fun e w' =>
      ∃ A' c', e = .returned (.tuple #[.slice A' (encR ⟨o, q, key, m, c, vo, val, gone, ttl⟩).length c', .int .i64 0]) ∧
        w'.ownsRow w.heap.size 5 1 (.slice A' (encR ⟨o, q, key, m, c, vo, val, gone, ttl⟩).length c') (encR ⟨o, q, key, m, c, vo, val, gone, ttl⟩).length (cB (encR ⟨o, q, key, m, c, vo, val, gone, ttl⟩)) ∧ Chg [] w w' := by
  have hI := isR_iff.1 h
  have hk := hI.k2
  have hv := hI.v
  simp only at hk hv
  have H := Lib.hid h
  have HR := Lib.hid hr
  clear h hI hr
  have h1 := (All.start w).newAt 51 #[.int .i64 o, .int .i64 q, .string ⟨key.toArray⟩, .int .i64 m, .int .i64 c, .int .i64 vo, .slice A val.length cp, .bool gone, .int .i64 ttl] rfl
  go_enter Try.func73, Try.ntmps73
  go_wp2_with (fail)
  refine (recIs_any _ o q key m c vo A val cp gone ttl).mono ?_
  rw [H.out]
  rintro e w1 ⟨rfl, hch1⟩
  have h2 := h1.quiet hch1
  have hat := h2.get 0 rfl
  have c0 := At.cell hat 0
  have c1 := At.cell hat 1
  have c7 := At.cell hat 7
  have lt2 := At.lt hat
  clear h1 hch1
  have HE : Hid (encR ⟨o, q, key, m, c, vo, val, gone, ttl⟩ = (((([] ++ encs ([o, q].map clamp)) ++ encRows [key]) ++ encs ([m, c, goneN gone, ttl].map clamp)) ++ encRows [val])) := rfl
  have h3 : All w (w1.alloc (.cells #[.slice none 0 0] 110)) [rWr w1.heap.size none 0 [], rAt w.heap.size 51 #[.int .i64 o, .int .i64 q, .string ⟨key.toArray⟩, .int .i64 m, .int .i64 c, .int .i64 vo, .slice A val.length cp, .bool gone, .int .i64 ttl]] := h2.newWr rfl
  obtain ⟨gn, HG⟩ : ∃ gn : Int, Hid (goneN gone = gn) := ⟨_, rfl⟩
  rw [HG.out] at HE
  cases gone
  · obtain rfl := HG.out
    clear HG
    rw [show goneN false = 0 from rfl] at HE
    go_wp2_with (fail)
    have h4 := h3.quiet ((Chg.refl [] _).alloc (.cells #[.int .i64 o, .int .i64 q] 3))
    refine (nums_any w1.heap.size [] _ _ none 0 (some ⟨w1.heap.size + 1, 0, none⟩) 2 [o, q] [] (h4.get 0 rfl) (Rd.new' (by simp) rfl rfl) (by simp) (by simp) (Away.at (by simp [blk]))).mono ?_
    rintro e w3 ⟨rfl, A3, c3, hw3⟩
    have h5 := h4.wr hw3
    clear h4 h3 h2 hat c0 c1 c7 hw3 lt2
    have hat := h5.get 1 rfl
    have c2 := At.cell hat 2
    have lt5 := At.lt hat
    have hz5 := (h5.rng 0 rfl w1.heap.size (by simp [rWr])).2
    obtain ⟨c6, w6, hrun6, hrd6, hch6, hlt6⟩ := str_bytes (P := Try.prog) (w := w3) 9 47 5 Try.underlying9 Try.underlying47 Try.underlying5 key
    have h6 := h5.quiet hch6
    have hz6 := (h6.rng 0 rfl w1.heap.size (by simp [rWr])).2
    go_wp2_with (fail)
    clear hrun6
    have h7 := h6.quiet ((Chg.refl [] _).alloc (.cells #[.slice (some ⟨w3.heap.size, 0, none⟩) key.length c6] 47))
    have hE3 : ([] ++ encs ([o, q].map clamp)).length ≤ 20 := by
      have h1 := enc_len9 (clamp_le o)
      have h2 := enc_len9 (clamp_le q)
      simp [encs]; omega
    generalize ([] ++ encs ([o, q].map clamp)) = E3 at *
    refine (bytes_any w1.heap.size (blk A3) _ _ A3 c3 (some ⟨w6.heap.size, 0, none⟩) 1 [⟨some ⟨w3.heap.size, 0, none⟩, c6, key⟩] E3 (h7.get 0 rfl) (Rd.new' rfl rfl rfl) ?_ ?_ ?_ ?_ (by simp)).mono ?_
    · intro r hr
      obtain rfl := List.mem_singleton.1 hr
      exact hrd6.alloc _
    · intro j hj
      have h1 := enc_len9 (show key.length ≤ 4611686018427387904 by omega)
      have h01 : j = 0 ∨ j = 1 := by simp at hj; omega
      rcases h01 with rfl | rfl
      · simp [encRows]; omega
      · simp [encRows]; omega
    · refine Away.at (fun hx => ?_)
      have := (h6.rng 0 rfl _ hx).2
      omega
    · intro r hr
      obtain rfl := List.mem_singleton.1 hr
      refine Away.at (fun hx => ?_)
      have := (h5.rng 0 rfl _ hx).2
      omega
    rintro e w8 ⟨rfl, A8, c8, hw8⟩
    have h8 := h7.wr hw8
    clear h5 h6 h7 hat c2 hrd6 hch6 hlt6 hz5 hz6 lt5 hw8
    have hat := h8.get 1 rfl
    have c3' := At.cell hat 3
    have c4' := At.cell hat 4
    have c8' := At.cell hat 8
    have lt8 := At.lt hat
    have hz8 := (h8.rng 0 rfl w1.heap.size (by simp [rWr])).2
    go_wp2_with (fail)
    have h9 := h8.quiet ((Chg.refl [] _).alloc (.cells #[.int .i64 m, .int .i64 c, .int .i64 0, .int .i64 ttl] 3))
    have hE8 : (E3 ++ encRows [key]).length ≤ 100 := by
      have h1 := enc_len9 (show key.length ≤ 4611686018427387904 by omega)
      simp [encRows]; omega
    have HE8 : Hid (E3 ++ encRows (List.map SlB.bs [⟨some ⟨w3.heap.size, 0, none⟩, c6, key⟩]) = E3 ++ encRows [key]) := rfl
    rw [HE8.out] at h9
    clear HE8
    generalize E3 ++ encRows [key] = E8 at *
    refine (nums_any w1.heap.size (blk A8) _ _ A8 c8 (some ⟨w8.heap.size, 0, none⟩) 4 [m, c, 0, ttl] E8 (h9.get 0 rfl) (Rd.new' rfl rfl rfl) (by simp) (by omega) (Away.at (fun hx => ?_))).mono ?_
    · have := (h8.rng 0 rfl _ hx).2
      omega
    rintro e w10 ⟨rfl, A10, c10, hw10⟩
    have h10 := h9.wr hw10
    clear h8 h9 hat c3' c4' c8' hw10 lt8 hz8
    have hat := h10.get 1 rfl
    have c6' := At.cell hat 6
    have lt10 := At.lt hat
    have hz10 := (h10.rng 0 rfl w1.heap.size (by simp [rWr])).2
    have hE10 : (E8 ++ encs ([m, c, 0, ttl].map clamp)).length ≤ 150 := by
      have h1 := enc_len9 (clamp_le m)
      have h2 := enc_len9 (clamp_le c)
      have h3 := enc_len9 (clamp_le 0)
      have h4 := enc_len9 (clamp_le ttl)
      simp [encs] at *; omega
    generalize E8 ++ encs ([m, c, 0, ttl].map clamp) = E10 at *
    go_wp2_with (fail)
    have h11 := h10.quiet ((Chg.refl [] _).alloc (.cells #[.slice A val.length cp] 47))
    refine (bytes_any w1.heap.size (blk A10) _ _ A10 c10 (some ⟨w10.heap.size, 0, none⟩) 1 [⟨A, cp, val⟩] E10 (h11.get 0 rfl) (Rd.new' rfl rfl rfl) ?_ ?_ ?_ ?_ (by simp)).mono ?_
    · intro r hr
      obtain rfl := List.mem_singleton.1 hr
      exact HR.out.keep0 h11.chg
    · intro j hj
      have h1 := enc_len9 (show val.length ≤ 4611686018427387904 by omega)
      have h01 : j = 0 ∨ j = 1 := by simp at hj; omega
      rcases h01 with rfl | rfl
      · simp [encRows]; omega
      · simp [encRows]; omega
    · refine Away.at (fun hx => ?_)
      have := (h10.rng 0 rfl _ hx).2
      omega
    · intro r hr
      obtain rfl := List.mem_singleton.1 hr
      exact Away.old HR.out (fun k hk => (h11.rng 0 rfl k hk).1)
    rintro e w12 ⟨rfl, A12, c12, hw12⟩
    have h12 := h11.wr hw12
    have HE12 : Hid (E10 ++ encRows (List.map SlB.bs [⟨A, cp, val⟩]) = E10 ++ encRows [val]) := rfl
    rw [HE12.out, ← HE.out] at h12
    clear HE12 hw12 h10 h11 hat c6' lt10 hz10
    have hEf : (encR ⟨o, q, key, m, c, vo, val, false, ttl⟩).length ≤ 1200 := by
      rw [HE.out]
      have h1 := enc_len9 (show val.length ≤ 4611686018427387904 by omega)
      simp [encRows]; omega
    clear HE
    obtain ⟨E, HEE⟩ : ∃ E, Hid (encR ⟨o, q, key, m, c, vo, val, false, ttl⟩ = E) := ⟨_, rfl⟩
    rw [HEE.out] at h12 hEf
    go_wp2_with (fail)
    refine (out_any w1.heap.size w12 (blk A12) _ A12 c12 _ (h12.get 0 rfl) (by omega)).mono ?_
    rintro e w13 ⟨A13, c13, rfl, hown13, hch13⟩
    go_wp2_with (fail)
    go_ret2
    rw [HEE.out]
    exact ⟨A13, c13, rfl, own_base hown13 (fun k hk => Nat.le_trans h12.chg.size (hown13.lt k hk).1), h12.chg.trans hch13 (by simp)⟩
  · obtain rfl := HG.out
    clear HG
    rw [show goneN true = 1 from rfl] at HE
    go_wp2_with (fail)
    have h4 := h3.quiet ((Chg.refl [] _).alloc (.cells #[.int .i64 o, .int .i64 q] 3))
    refine (nums_any w1.heap.size [] _ _ none 0 (some ⟨w1.heap.size + 1, 0, none⟩) 2 [o, q] [] (h4.get 0 rfl) (Rd.new' (by simp) rfl rfl) (by simp) (by simp) (Away.at (by simp [blk]))).mono ?_
    rintro e w3 ⟨rfl, A3, c3, hw3⟩
    have h5 := h4.wr hw3
    clear h4 h3 h2 hat c0 c1 c7 hw3 lt2
    have hat := h5.get 1 rfl
    have c2 := At.cell hat 2
    have lt5 := At.lt hat
    have hz5 := (h5.rng 0 rfl w1.heap.size (by simp [rWr])).2
    obtain ⟨c6, w6, hrun6, hrd6, hch6, hlt6⟩ := str_bytes (P := Try.prog) (w := w3) 9 47 5 Try.underlying9 Try.underlying47 Try.underlying5 key
    have h6 := h5.quiet hch6
    have hz6 := (h6.rng 0 rfl w1.heap.size (by simp [rWr])).2
    go_wp2_with (fail)
    clear hrun6
    have h7 := h6.quiet ((Chg.refl [] _).alloc (.cells #[.slice (some ⟨w3.heap.size, 0, none⟩) key.length c6] 47))
    have hE3 : ([] ++ encs ([o, q].map clamp)).length ≤ 20 := by
      have h1 := enc_len9 (clamp_le o)
      have h2 := enc_len9 (clamp_le q)
      simp [encs]; omega
    generalize ([] ++ encs ([o, q].map clamp)) = E3 at *
    refine (bytes_any w1.heap.size (blk A3) _ _ A3 c3 (some ⟨w6.heap.size, 0, none⟩) 1 [⟨some ⟨w3.heap.size, 0, none⟩, c6, key⟩] E3 (h7.get 0 rfl) (Rd.new' rfl rfl rfl) ?_ ?_ ?_ ?_ (by simp)).mono ?_
    · intro r hr
      obtain rfl := List.mem_singleton.1 hr
      exact hrd6.alloc _
    · intro j hj
      have h1 := enc_len9 (show key.length ≤ 4611686018427387904 by omega)
      have h01 : j = 0 ∨ j = 1 := by simp at hj; omega
      rcases h01 with rfl | rfl
      · simp [encRows]; omega
      · simp [encRows]; omega
    · refine Away.at (fun hx => ?_)
      have := (h6.rng 0 rfl _ hx).2
      omega
    · intro r hr
      obtain rfl := List.mem_singleton.1 hr
      refine Away.at (fun hx => ?_)
      have := (h5.rng 0 rfl _ hx).2
      omega
    rintro e w8 ⟨rfl, A8, c8, hw8⟩
    have h8 := h7.wr hw8
    clear h5 h6 h7 hat c2 hrd6 hch6 hlt6 hz5 hz6 lt5 hw8
    have hat := h8.get 1 rfl
    have c3' := At.cell hat 3
    have c4' := At.cell hat 4
    have c8' := At.cell hat 8
    have lt8 := At.lt hat
    have hz8 := (h8.rng 0 rfl w1.heap.size (by simp [rWr])).2
    go_wp2_with (fail)
    have h9 := h8.quiet ((Chg.refl [] _).alloc (.cells #[.int .i64 m, .int .i64 c, .int .i64 1, .int .i64 ttl] 3))
    have hE8 : (E3 ++ encRows [key]).length ≤ 100 := by
      have h1 := enc_len9 (show key.length ≤ 4611686018427387904 by omega)
      simp [encRows]; omega
    have HE8 : Hid (E3 ++ encRows (List.map SlB.bs [⟨some ⟨w3.heap.size, 0, none⟩, c6, key⟩]) = E3 ++ encRows [key]) := rfl
    rw [HE8.out] at h9
    clear HE8
    generalize E3 ++ encRows [key] = E8 at *
    refine (nums_any w1.heap.size (blk A8) _ _ A8 c8 (some ⟨w8.heap.size, 0, none⟩) 4 [m, c, 1, ttl] E8 (h9.get 0 rfl) (Rd.new' rfl rfl rfl) (by simp) (by omega) (Away.at (fun hx => ?_))).mono ?_
    · have := (h8.rng 0 rfl _ hx).2
      omega
    rintro e w10 ⟨rfl, A10, c10, hw10⟩
    have h10 := h9.wr hw10
    clear h8 h9 hat c3' c4' c8' hw10 lt8 hz8
    have hat := h10.get 1 rfl
    have c6' := At.cell hat 6
    have lt10 := At.lt hat
    have hz10 := (h10.rng 0 rfl w1.heap.size (by simp [rWr])).2
    have hE10 : (E8 ++ encs ([m, c, 1, ttl].map clamp)).length ≤ 150 := by
      have h1 := enc_len9 (clamp_le m)
      have h2 := enc_len9 (clamp_le c)
      have h3 := enc_len9 (clamp_le 1)
      have h4 := enc_len9 (clamp_le ttl)
      simp [encs] at *; omega
    generalize E8 ++ encs ([m, c, 1, ttl].map clamp) = E10 at *
    go_wp2_with (fail)
    have h11 := h10.quiet ((Chg.refl [] _).alloc (.cells #[.slice A val.length cp] 47))
    refine (bytes_any w1.heap.size (blk A10) _ _ A10 c10 (some ⟨w10.heap.size, 0, none⟩) 1 [⟨A, cp, val⟩] E10 (h11.get 0 rfl) (Rd.new' rfl rfl rfl) ?_ ?_ ?_ ?_ (by simp)).mono ?_
    · intro r hr
      obtain rfl := List.mem_singleton.1 hr
      exact HR.out.keep0 h11.chg
    · intro j hj
      have h1 := enc_len9 (show val.length ≤ 4611686018427387904 by omega)
      have h01 : j = 0 ∨ j = 1 := by simp at hj; omega
      rcases h01 with rfl | rfl
      · simp [encRows]; omega
      · simp [encRows]; omega
    · refine Away.at (fun hx => ?_)
      have := (h10.rng 0 rfl _ hx).2
      omega
    · intro r hr
      obtain rfl := List.mem_singleton.1 hr
      exact Away.old HR.out (fun k hk => (h11.rng 0 rfl k hk).1)
    rintro e w12 ⟨rfl, A12, c12, hw12⟩
    have h12 := h11.wr hw12
    have HE12 : Hid (E10 ++ encRows (List.map SlB.bs [⟨A, cp, val⟩]) = E10 ++ encRows [val]) := rfl
    rw [HE12.out, ← HE.out] at h12
    clear HE12 hw12 h10 h11 hat c6' lt10 hz10
    have hEf : (encR ⟨o, q, key, m, c, vo, val, true, ttl⟩).length ≤ 1200 := by
      rw [HE.out]
      have h1 := enc_len9 (show val.length ≤ 4611686018427387904 by omega)
      simp [encRows]; omega
    clear HE
    obtain ⟨E, HEE⟩ : ∃ E, Hid (encR ⟨o, q, key, m, c, vo, val, true, ttl⟩ = E) := ⟨_, rfl⟩
    rw [HEE.out] at h12 hEf
    go_wp2_with (fail)
    refine (out_any w1.heap.size w12 (blk A12) _ A12 c12 _ (h12.get 0 rfl) (by omega)).mono ?_
    rintro e w13 ⟨A13, c13, rfl, hown13, hch13⟩
    go_wp2_with (fail)
    go_ret2
    rw [HEE.out]
    exact ⟨A13, c13, rfl, own_base hown13 (fun k hk => Nat.le_trans h12.chg.size (hown13.lt k hk).1), h12.chg.trans hch13 (by simp)⟩
end Go.Proofs.Ytdfkednggjelcaa
