
import Derived.Test.YtdfkednggjelcaaRows
import Derived.Test.YtdfkednggjelcaaMBase
namespace Go.Proofs.Ytdfkednggjelcaa
open Go.RowKit
attribute [local go_sem ↓] run_min2 run_max2
theorem info8 : (Try.prog.info? 5).map (fun i => (i.zero, i.size, i.bytes)) = some (some (.int .u8 0), 1, 1) := by kernel_rfl

/-- A Writer at block B that has laid 'bs'; only it, and its row, have changed since w0 (when its row lay in the blocks S). -/
structure Wr (w0 : World) (B : Nat) (S : List Nat) (w : World) (A : Option Addr) (c : Nat) (bs : List UInt8) : Prop where
  at_ : At w B 110 #[.slice A bs.length c]
  own : w.ownsRow 0 5 1 (.slice A bs.length c) bs.length (cB bs)
  chg : Chg (B :: S) w0 w
  blk : ∀ k, k ∈ blk A → k ∈ S ∨ w0.heap.size ≤ k

theorem Wr.here {w0 : World} {B : Nat} {S : List Nat} {w : World} {A : Option Addr} {c : Nat} {L : List UInt8} (h : Wr w0 B S w A c L) : Wr w B (Go.Proofs.Ytdfkednggjelcaa.blk A) w A c L :=
  ⟨h.at_, h.own, Chg.refl _ _, fun _ hk => .inl hk⟩
theorem Wr.trans {w0 : World} {B : Nat} {S : List Nat} {w w' : World} {A A' : Option Addr} {c c' : Nat} {L L' : List UInt8} (h : Wr w0 B S w A c L) (k : Wr w B (Go.Proofs.Ytdfkednggjelcaa.blk A) w' A' c' L') : Wr w0 B S w' A' c' L' :=
  ⟨k.at_, k.own, h.chg.trans k.chg (fun x hx => by
    rcases List.mem_cons.1 hx with rfl | hx
    · exact .inl (by simp)
    · rcases h.blk x hx with h1 | h1
      · exact .inl (List.mem_cons_of_mem _ h1)
      · exact .inr h1), fun x hx => by
    rcases k.blk x hx with h1 | h1
    · exact h.blk x h1
    · exact .inr (Nat.le_trans h.chg.size h1)⟩
theorem Wr.keep {w0 : World} {B : Nat} {S : List Nat} {w w' : World} {A : Option Addr} {c : Nat} {L : List UInt8} (h : Wr w0 B S w A c L) {T : List Nat} (hc : Chg T w w') (hB : B ∉ T) (hA : ∀ k, k ∈ Go.Proofs.Ytdfkednggjelcaa.blk A → k ∉ T)
    (hT : ∀ k, k ∈ T → k ∈ S ∨ w0.heap.size ≤ k) : Wr w0 B S w' A c L :=
  ⟨h.at_.keep hc hB, own_keep h.own hc (fun k hk => hA k (by rw [← own_blk A L.length c, hk]; simp)), h.chg.trans hc (fun x hx => by
    rcases hT x hx with h1 | h1
    · exact .inl (List.mem_cons_of_mem _ h1)
    · exact .inr h1), h.blk⟩
theorem Wr.keep0 {w0 : World} {B : Nat} {S : List Nat} {w w' : World} {A : Option Addr} {c : Nat} {L : List UInt8} (h : Wr w0 B S w A c L) (hc : Chg [] w w') : Wr w0 B S w' A c L :=
  h.keep hc (by simp) (by simp) (by simp)
/-- A new Writer. -/
theorem Wr.new (w : World) : Wr w w.heap.size [] (w.alloc (.cells #[.slice none 0 0] 110)) none 0 [] :=
  ⟨At.new _ _ _, World.ownsRow_nil _ _ _ _, ⟨rfl, rfl, rfl, by simp, fun k hk _ => ((Chg.refl [] w).alloc _).block k hk (by simp)⟩, by simp [Go.Proofs.Ytdfkednggjelcaa.blk]⟩

theorem Wr.push {w0 : World} {B : Nat} {S : List Nat} {w w3 : World} {A A3 : Option Addr} {c c3 : Nat} {L : List UInt8} {b : UInt8} {v : Int} (hw : Wr w0 B S w A c L) (o : Obj) (hv : v = (b.toNat : Int))
    (hown : w3.ownsRow 0 5 1 (.slice A3 (L.length + 1) c3) (L.length + 1) (cB L ++ [.int .u8 v])) (hg : (w.alloc o).grownBy w3 (Value.slice A L.length c).ownBlock)
    (hb : Go.Proofs.Ytdfkednggjelcaa.blk A3 = (Value.slice A L.length c).ownBlock.toList ∨ Go.Proofs.Ytdfkednggjelcaa.blk A3 = [(w.alloc o).heap.size]) :
    w3.cell? ⟨B, 0, none⟩ = some (.slice A L.length c) ∧ w3.frozen? ⟨B, 0, none⟩ = false ∧ Wr w0 B S (w3.setCell ⟨B, 0, none⟩ (.slice A3 (L.length + 1) c3)) A3 c3 (L ++ [b]) := by
  have hne := own_at_ne hw.own hw.at_ (by decide)
  have hBl := hw.at_.lt
  have h1 : At w3 B 110 #[.slice A L.length c] := (hw.at_.keep ((Chg.refl [] w).alloc o) (by simp)).keep (Chg.of_grown hg) (by
    intro hm
    exact hne B (by simpa using hm) rfl)
  have hch : Chg (B :: S) w0 w3 := (hw.chg.alloc o).grown hg (fun k hk => by
    rcases hw.blk k (by rw [← own_blk A L.length c, hk]; simp) with h | h
    · exact .inl (List.mem_cons_of_mem _ h)
    · exact .inr h)
  have hs := hw.chg.size
  have hlen : (L ++ [b]).length = L.length + 1 := by simp
  refine ⟨by rw [h1.cell]; rfl, h1.free 0, ?_, ?_, hch.setCell (.inl (by simp)) _, ?_⟩
  · rw [hlen]; exact h1.set_ 0 _
  · rw [hlen, cB_app, show cB [b] = [.int .u8 v] by simp [cB, hv]]
    refine own_keep hown (S := [B]) ((Chg.refl _ _).setCell (.inl (by simp)) _) ?_
    intro k hk
    have hk' : k ∈ Go.Proofs.Ytdfkednggjelcaa.blk A3 := by rw [← own_blk A3 (L.length + 1) c3, hk]; simp
    rcases hb with hb | hb
    · rw [hb] at hk'
      simpa using hne k (by simpa using hk')
    · rw [hb] at hk'
      simp at hk' ⊢
      omega
  · intro k hk
    rcases hb with hb | hb
    · rw [hb, own_blk] at hk
      exact hw.blk k hk
    · rw [hb] at hk
      simp at hk
      exact .inr (by omega)

theorem Wr.pushes {w0 : World} {B : Nat} {S : List Nat} {w w3 : World} {A A3 : Option Addr} {c c3 : Nat} {L ps : List UInt8} (hw : Wr w0 B S w A c L)
    (hown : w3.ownsRow 0 5 1 (.slice A3 (L.length + ps.length) c3) (L.length + ps.length) (cB L ++ cB ps)) (hg : w.grownBy w3 (Value.slice A L.length c).ownBlock)
    (hb : Go.Proofs.Ytdfkednggjelcaa.blk A3 = (Value.slice A L.length c).ownBlock.toList ∨ Go.Proofs.Ytdfkednggjelcaa.blk A3 = [w.heap.size]) :
    w3.cell? ⟨B, 0, none⟩ = some (.slice A L.length c) ∧ w3.frozen? ⟨B, 0, none⟩ = false ∧ Wr w0 B S (w3.setCell ⟨B, 0, none⟩ (.slice A3 (L.length + ps.length) c3)) A3 c3 (L ++ ps) := by
  have hne := own_at_ne hw.own hw.at_ (by decide)
  have hBl := hw.at_.lt
  have h1 : At w3 B 110 #[.slice A L.length c] := hw.at_.keep (Chg.of_grown hg) (by
    intro hm
    exact hne B (by simpa using hm) rfl)
  have hch : Chg (B :: S) w0 w3 := hw.chg.grown hg (fun k hk => by
    rcases hw.blk k (by rw [← own_blk A L.length c, hk]; simp) with h | h
    · exact .inl (List.mem_cons_of_mem _ h)
    · exact .inr h)
  have hs := hw.chg.size
  have hlen : (L ++ ps).length = L.length + ps.length := by simp
  refine ⟨by rw [h1.cell]; rfl, h1.free 0, ?_, ?_, hch.setCell (.inl (by simp)) _, ?_⟩
  · rw [hlen]; exact h1.set_ 0 _
  · rw [hlen, cB_app]
    refine own_keep hown (S := [B]) ((Chg.refl _ _).setCell (.inl (by simp)) _) ?_
    intro k hk
    have hk' : k ∈ Go.Proofs.Ytdfkednggjelcaa.blk A3 := by rw [← own_blk A3 (L.length + ps.length) c3, hk]; simp
    rcases hb with hb | hb
    · rw [hb] at hk'
      simpa using hne k (by simpa using hk')
    · rw [hb] at hk'
      simp at hk' ⊢
      omega
  · intro k hk
    rcases hb with hb | hb
    · rw [hb, own_blk] at hk
      exact hw.blk k hk
    · rw [hb] at hk
      simp at hk
      exact .inr (by omega)
theorem or128 (x : Nat) : bits .or .u8 ((x : Int) % 256) 128 = ((UInt8.ofNat (x % 128 + 128)).toNat : Int) := by
  rw [toNat_ofNat (by omega), show ((x : Int) % 256) = ((x % 256 : Nat) : Int) by omega, show (128 : Int) = ((128 : Nat) : Int) by rfl, u8_or_nat _ _ (by omega) (by omega)]
  have h : x % 256 ||| 128 = x % 128 + 128 := by
    have h1 : x % 256 = (x / 128 % 2) * 2 ^ 7 + x % 128 := by omega
    have h2 : (x / 128 % 2) = 0 ∨ (x / 128 % 2) = 1 := by omega
    have h3 : x % 128 < 2 ^ 7 := by omega
    rcases h2 with h2 | h2
    · rw [h1, h2, Nat.or_comm, show (128 : Nat) = 2 ^ 7 * 1 by rfl, Nat.zero_mul, Nat.zero_add, ← Nat.two_pow_add_eq_or_of_lt h3]; omega
    · rw [h1, h2, Nat.or_comm, show (128 : Nat) = 2 ^ 7 * 1 by rfl, show 1 * 2 ^ 7 + x % 128 = 2 ^ 7 * 1 + x % 128 by omega, Nat.two_pow_add_eq_or_of_lt h3, ← Nat.or_assoc, Nat.or_self, ← Nat.two_pow_add_eq_or_of_lt h3]; omega
  rw [h]
theorem clampI (n : Int) : max 0 (min n 4611686018427387904) = (clamp n : Int) := by unfold clamp; omega

set_option maxRecDepth 100000 in
set_option maxHeartbeats 400000 in
theorem nums_any (B : Nat) (S : List Nat) (w0 w : World) (A' : Option Addr) (c' : Nat) (A : Option Addr) (c : Nat) (ns : List Int) (bs : List UInt8)
    (hw : Wr w0 B S w A' c' bs) (hr : Rd w 1 A ns.length (cI ns)) (hlen : ns.length ≤ 1099511627776) (hbs : bs.length ≤ 1099511627776) (hA : Away A ns.length (B :: blk A')) :
    Calls Try.prog 54 #[.pointer (some ⟨B, 0, none⟩), .slice A ns.length c] w fun e w' => e = .returned (.tuple #[]) ∧ ∃ A' c', Wr w0 B S w' A' c' (bs ++ encs (ns.map clamp)) := by
  obtain ⟨i0, hi, hz0, hz1, hz2⟩ := info_parts info8
  go_enter Try.func54, Try.ntmps54
  go_wp2_with (fail)
  go_loopw [11] (fun i wr => ∃ (k : Nat) (L : List UInt8) (A'' : Option Addr) (c'' : Nat), k ≤ ns.length ∧ i = .int .i64 k ∧ L.length ≤ bs.length + 10 * k ∧ Hid (L = bs ++ encs ((ns.take k).map clamp)) ∧ Wr w B (blk A') wr A'' c'' L) (fun i _ => ns.length - (intOf i).toNat)
  case atStart => exact ⟨0, bs, _, _, Nat.zero_le _, rfl, by omega, by simp [encs, Hid], hw.here⟩
  case round =>
    obtain ⟨k, L, A1, c1, hk, rfl, hL, HL, hw1⟩ := hrel
    by_cases hlt : k < ns.length
    · have hr1 := hr.keep hw1.chg hA
      obtain ⟨ad, u, rfl, had, hu, hc⟩ := hr1.get hlt
      rw [cI_get hlt] at hu
      obtain rfl : Value.int .i64 ns[k] = u := by simpa using hu
      generalize hnk : ns[k] = n at *
      have Hnk := Lib.hid hnk
      clear hu hnk hr1
      go_wp2_with (fail)
      rw [clampI]
      have Hcl := Lib.hid (clamp_le n)
      generalize hn0 : clamp n = n0 at *
      have Hn0 := Lib.hid hn0
      clear hn0
      go_loopw [6] (fun u wq => ∃ (x : Nat) (M : List UInt8) (A'' : Option Addr) (c'' : Nat), u = .int .u64 x ∧ x < 9223372036854775808 ∧ Hid (M ++ enc x = L ++ enc n0) ∧ Wr w B (blk A') wq A'' c'' M) (fun u _ => (intOf u).toNat)
      case atStart => exact ⟨n0, L, _, _, rfl, by have := Hcl.out; omega, rfl, hw1⟩
      case round =>
        obtain ⟨x, M, A2, c2, rfl, hx63, HM, hw2⟩ := hrel
        have hcell : _ := hw2.at_.cell 0
        have hfree := hw2.at_.free 0
        simp only [List.getElem?_toArray, List.getElem?_cons_zero] at hcell
        have hML : M.length ≤ L.length + 9 := by
          have h1 := congrArg List.length HM.out
          have h2 := enc_len9 Hcl.out
          have h3 := enc_pos x
          simp only [List.length_append] at h1
          omega
        by_cases hx128 : 128 ≤ x
        · go_wp2_with (at_builtin; refine wpList_append_rd _ rfl (.tmp 27) (.tmp 31) 47 (by rfl) 0 5 i0 _ 1 1 Try.underlying47 hi hz0 hz1 hz2 rfl (by omega) (.slice A2 M.length c2) M.length (cB M) (by rfl) (hw2.own.alloc _) (some ⟨wr.heap.size, 0, none⟩) 1 1 [.int .u8 _] (by rfl) (Rd.of_at (At.new _ _ _) rfl) (by simp [Value.oneCell']) (by unfold maxLen; omega) (by omega) (Nat.zero_le _) ?_; intro A3 c3 w3 hown3 hg3 hb3; obtain ⟨hc3, hf3, hw3⟩ := hw2.push (b := UInt8.ofNat (x % 128 + 128)) _ (or128 x) hown3 hg3 hb3)
          go_roundw
          case rel => exact ⟨x / 128, M ++ [UInt8.ofNat (x % 128 + 128)], _, _, by go_num, by omega, by unfold Hid; rw [← HM.out, enc_hi hx128]; simp, hw3⟩
          case measure => simp [intOf]; omega
        · go_wp2_with (at_builtin; refine wpList_append_rd _ rfl (.tmp 39) (.tmp 42) 47 (by rfl) 0 5 i0 _ 1 1 Try.underlying47 hi hz0 hz1 hz2 rfl (by omega) (.slice A2 M.length c2) M.length (cB M) (by rfl) (hw2.own.alloc _) (some ⟨wr.heap.size, 0, none⟩) 1 1 [.int .u8 _] (by rfl) (Rd.of_at (At.new _ _ _) rfl) (by simp [Value.oneCell']) (by unfold maxLen; omega) (by omega) (Nat.zero_le _) ?_; intro A3 c3 w3 hown3 hg3 hb3; obtain ⟨hc3, hf3, hw3⟩ := hw2.push (b := UInt8.ofNat x) _ (by rw [toNat_ofNat (by omega)]) hown3 hg3 hb3)
          go_roundw
          case rel =>
            refine ⟨k + 1, M ++ [UInt8.ofNat x], _, _, by omega, by go_num, by simp; omega, ?_, hw3⟩
            unfold Hid
            have h1 := HM.out
            rw [enc_lo (by omega)] at h1
            rw [h1, HL.out, List.take_succ_eq_append_getElem hlt, Hnk.out]
            simp [encs, Hn0.out]
          case measure => simp [intOf]; omega
    · obtain rfl : k = ns.length := by omega
      go_wp2_with (fail)
      go_end0
      exact ⟨rfl, A1, c1, by have h := HL.out; rw [List.take_length] at h; rw [← h]; exact hw.trans hw1⟩

set_option maxHeartbeats 400000 in
theorem raw_any (B : Nat) (S : List Nat) (w0 w : World) (A' : Option Addr) (c' : Nat) (A : Option Addr) (n c : Nat) (ps bs : List UInt8)
    (hw : Wr w0 B S w A' c' bs) (hn : ps.length = n) (hr : Rd w 1 A ps.length (cB ps)) (hlen : ps.length ≤ 1099511627776) (hbs : bs.length ≤ 1099511627776) :
    Calls Try.prog 56 #[.pointer (some ⟨B, 0, none⟩), .slice A n c] w fun e w' => e = .returned (.tuple #[]) ∧ ∃ A' c', Wr w0 B S w' A' c' (bs ++ ps) := by
  subst hn
  obtain ⟨i0, hi, hz0, hz1, hz2⟩ := info_parts info8
  have hcell : _ := hw.at_.cell 0
  have hfree := hw.at_.free 0
  simp only [List.getElem?_toArray, List.getElem?_cons_zero] at hcell
  go_enter Try.func56, Try.ntmps56
  go_wp2_with (at_builtin; refine wpList_append_rd _ rfl (.tmp 10) (.tmp 11) 47 (by rfl) 0 5 i0 _ 1 1 Try.underlying47 hi hz0 hz1 hz2 rfl (by omega) (.slice A' bs.length c') bs.length (cB bs) (by rfl) hw.own A ps.length c (cB ps) (by rfl) hr (cB_one _) (by unfold maxLen; omega) (by omega) (Nat.zero_le _) ?_; intro A3 c3 w3 hown3 hg3 hb3; obtain ⟨hc3, hf3, hw3⟩ := hw.pushes hown3 hg3 hb3)
  go_end0
  exact ⟨rfl, _, _, hw3⟩

set_option maxHeartbeats 400000 in
theorem clone_any (w : World) (A : Option Addr) (n c : Nat) (ps : List UInt8) (hn : ps.length = n) (hr : Rd w 1 A ps.length (cB ps)) (hlen : ps.length ≤ 1099511627776) :
    Calls Try.prog 79 #[.slice A n c] w fun e w' => ∃ A' c', e = .returned (.slice A' n c') ∧ w'.ownsRow w.heap.size 5 1 (.slice A' n c') n (cB ps) ∧ Chg [] w w' := by
  subst hn
  obtain ⟨i0, hi, hz0, hz1, hz2⟩ := info_parts info8
  rcases A with _ | ad
  · have hz : ps.length = 0 := by
      rcases Nat.eq_zero_or_pos ps.length with h | h
      · exact h
      · obtain ⟨_, h, _⟩ := hr.at_ h
        cases h
    have hz' : ps = [] := List.eq_nil_of_length_eq_zero hz
    subst hz'
    have heq := fun w => Lib.run_eql_slice_nil (P := Try.prog) w 47 5 none 0 c 0 0 Try.underlying47
    simp only [List.length_nil, Option.isNone_none] at heq ⊢
    go_enter Try.func79, Try.ntmps79
    go_wp2_with (fail)
    go_ret
    exact ⟨_, _, rfl, World.ownsRow_nil _ _ _ _, Chg.refl _ _⟩
  · have heq := fun w => Lib.run_eql_slice_nil (P := Try.prog) w 47 5 (some ad) ps.length c 0 0 Try.underlying47
    simp only [Option.isNone_some] at heq
    go_enter Try.func79, Try.ntmps79
    go_wp2_with (at_builtin; refine wpList_append_rd _ rfl (.tmp 5) (.tmp 6) 47 (by rfl) w.heap.size 5 i0 _ 1 1 Try.underlying47 hi hz0 hz1 hz2 rfl (by omega) (.slice (some ⟨w.heap.size, 0, none⟩) 0 0) 0 [] (by rfl) (World.ownsRow_made w #[] 0 (Nat.le_refl _) (by simp [maxLen]) rfl) (some ad) ps.length c (cB ps) (by rfl) (hr.alloc _) (cB_one _) (by unfold maxLen; omega) (by omega) (by simp) ?_; intro A3 c3 w3 hown3 hg3 hb3)
    go_ret
    refine ⟨A3, c3, by simp, by simpa using hown3, ((Chg.refl [] w).alloc _).grown hg3 (fun k hk => .inr ?_)⟩
    have : k = w.heap.size := by simpa [Value.ownBlock] using hk.symm
    omega

set_option maxHeartbeats 400000 in
theorem out_any (B : Nat) (w0 : World) (S : List Nat) (w : World) (A : Option Addr) (c : Nat) (bs : List UInt8) (hw : Wr w0 B S w A c bs) (hlen : bs.length ≤ 1099511627776) :
    Calls Try.prog 58 #[.pointer (some ⟨B, 0, none⟩)] w fun e w' => ∃ A' c', e = .returned (.slice A' bs.length c') ∧ w'.ownsRow w.heap.size 5 1 (.slice A' bs.length c') bs.length (cB bs) ∧ Chg [] w w' := by
  have hcell : _ := hw.at_.cell 0
  simp only [List.getElem?_toArray, List.getElem?_cons_zero] at hcell
  go_enter Try.func58, Try.ntmps58
  go_wp2_with (go_at_call 79; refine (clone_any _ A bs.length c bs rfl (Rd.of_own hw.own) hlen).mono ?_; rintro e w' ⟨A', c', rfl, hown, hch⟩)
  go_ret
  exact ⟨A', c', rfl, hown, hch⟩

set_option maxHeartbeats 400000 in
theorem out_nil (w : World) : Calls Try.prog 58 #[.pointer none] w fun e w' => e = .returned (.slice none 0 0) ∧ w = w' := by
  go_enter Try.func58, Try.ntmps58
  go_wp2_with (fail)
  go_ret
  exact ⟨rfl, rfl⟩
set_option maxHeartbeats 400000 in
theorem raw_nil (A : Option Addr) (n c : Nat) (w : World) : Calls Try.prog 56 #[.pointer none, .slice A n c] w fun e w' => e = .returned (.tuple #[]) ∧ w = w' := by
  go_enter Try.func56, Try.ntmps56
  go_wp2_with (fail)
  go_end0
  exact ⟨rfl, rfl⟩
set_option maxHeartbeats 400000 in
theorem nums_nil (A : Option Addr) (n c : Nat) (w : World) : Calls Try.prog 54 #[.pointer none, .slice A n c] w fun e w' => e = .returned (.tuple #[]) ∧ w = w' := by
  go_enter Try.func54, Try.ntmps54
  go_wp2_with (fail)
  refine bodyPost_ret (results_none rfl _ _ _) rfl ?_
  exact ⟨rfl, rfl⟩

/-- Rows as bytes, each with its length. -/
def encRows (l : List (List UInt8)) : List UInt8 := (l.map fun r => enc r.length ++ r).flatten
theorem encRows_snoc (l : List (List UInt8)) (r : List UInt8) : encRows (l ++ [r]) = encRows l ++ (enc r.length ++ r) := by simp [encRows]
def rowsLen (l : List (List UInt8)) : Nat := (l.map List.length).sum

set_option maxHeartbeats 800000 in
theorem bytes_any (B : Nat) (S : List Nat) (w0 w : World) (A' : Option Addr) (c' : Nat) (A : Option Addr) (c : Nat) (ls : List SlB) (bs : List UInt8)
    (hw : Wr w0 B S w A' c' bs) (hr : Rd w 1 A ls.length (cR ls)) (hrs : ∀ r ∈ ls, RdB w r) (hlen : ∀ k, k ≤ ls.length → (bs ++ encRows ((ls.take k).map SlB.bs)).length ≤ 1099511627776)
    (hA : Away A ls.length (B :: blk A')) (hAs : ∀ r ∈ ls, Away r.A r.bs.length (B :: blk A')) (hls : ls.length ≤ 1099511627776) :
    Calls Try.prog 74 #[.pointer (some ⟨B, 0, none⟩), .slice A ls.length c] w fun e w' => e = .returned (.tuple #[]) ∧ ∃ A' c', Wr w0 B S w' A' c' (bs ++ encRows (ls.map SlB.bs)) := by
  go_enter Try.func74, Try.ntmps74
  go_wp2_with (fail)
  go_loopw [8] (fun i wr => ∃ (k : Nat) (L : List UInt8) (A'' : Option Addr) (c'' : Nat), k ≤ ls.length ∧ i = .int .i64 k ∧ Hid (L = bs ++ encRows ((ls.take k).map SlB.bs)) ∧ Wr w B (blk A') wr A'' c'' L) (fun i _ => ls.length - (intOf i).toNat)
  case atStart => exact ⟨0, bs, _, _, Nat.zero_le _, rfl, by simp [encRows, Hid], hw.here⟩
  case round =>
    obtain ⟨k, L, A1, c1, hk, rfl, HL, hw1⟩ := hrel
    by_cases hlt : k < ls.length
    · have hr1 := hr.keep hw1.chg hA
      obtain ⟨ad, u, rfl, had, hu, hc⟩ := hr1.get hlt
      rw [cR_get hlt] at hu
      have hmem := List.getElem_mem hlt
      have hrow : RdB w ls[k] := hrs _ hmem
      have hAk := hAs _ hmem
      have hl0 := hlen k hk
      have hl1 := hlen (k + 1) (by omega)
      rw [List.take_succ_eq_append_getElem hlt, List.map_append, List.map_singleton, encRows_snoc, ← List.append_assoc, ← HL.out] at hl1
      rw [← HL.out] at hl0
      have HL' : Hid (L ++ (enc ls[k].bs.length ++ ls[k].bs) = bs ++ encRows ((ls.take (k + 1)).map SlB.bs)) := by
        unfold Hid
        rw [HL.out, List.take_succ_eq_append_getElem hlt, List.map_append, List.map_singleton, encRows_snoc, List.append_assoc]
      generalize ls[k] = r at *
      obtain rfl : Value.slice r.A r.bs.length r.c = u := by simpa using hu
      obtain ⟨rA, rc, rbs⟩ := r
      simp only [RdB] at hrow hc hl1 hAk HL'
      have hrl : rbs.length ≤ 1099511627776 := by simp at hl1; omega
      clear hu hmem
      have hcl : clamp (rbs.length : Int) = rbs.length := by unfold clamp; omega
      go_wp2_with (fail)
      refine (nums_any B (blk A') w _ A1 c1 (some ⟨wr.heap.size, 0, none⟩) 1 [(rbs.length : Int)] L (hw1.keep0 ((Chg.refl _ _).alloc _)) (Rd.of_at (At.new _ _ _) rfl) (by simp) hl0 ?_).mono ?_
      · refine Away.at (fun hx => ?_)
        have h1 := hw1.at_.lt
        simp only [List.mem_cons] at hx
        rcases hx with hx | hx
        · omega
        · have := (own_in hw1.own _ hx).2
          omega
      rintro e w2 ⟨rfl, A2, c2, hw2⟩
      have HE : Hid (encs (List.map clamp [(rbs.length : Int)]) = enc rbs.length) := by unfold Hid; simp [encs, hcl]
      rw [HE.out] at hw2
      go_wp2_with (fail)
      refine (raw_any B (blk A') w _ A2 c2 rA rbs.length rc rbs (L ++ enc rbs.length) hw2 rfl (Rd.keep hrow hw2.chg hAk) hrl (by simp at hl1 ⊢; omega)).mono ?_
      rintro e w3 ⟨rfl, A3, c3, hw3⟩
      go_wp2_with (fail)
      go_roundw
      case rel => exact ⟨k + 1, L ++ (enc rbs.length ++ rbs), A3, c3, by omega, by go_num, HL', by simpa using hw3⟩
      case measure => simp [intOf]; omega
    · obtain rfl : k = ls.length := by omega
      go_wp2_with (fail)
      go_end0
      exact ⟨rfl, A1, c1, by have h := HL.out; rw [List.take_length] at h; rw [← h]; exact hw.trans hw1⟩
end Go.Proofs.Ytdfkednggjelcaa
