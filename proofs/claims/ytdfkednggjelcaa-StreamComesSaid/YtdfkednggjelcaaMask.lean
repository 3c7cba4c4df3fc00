
/-
  A mask on an int; one byte of a row turned; append onto new bytes.
-/
import Derived.Test.YtdfkednggjelcaaSameL
import Derived.Test.YtdfkednggjelcaaJoin
import Derived.ArgAppend
namespace Go.Proofs.Ytdfkednggjelcaa
open Go.RowKit
theorem and30m (v : Int) : ∃ m : Nat, bits .and .i64 v 1073741823 = (m : Int) ∧ m ≤ 1073741823 := by
  have h : (BitVec.ofInt 64 v &&& BitVec.ofInt 64 1073741823).toNat ≤ 1073741823 := by
    rw [BitVec.toNat_and]
    refine Nat.le_trans Nat.and_le_right ?_
    decide
  refine ⟨_, ?_, h⟩
  show IntKind.i64.wrap ((BitVec.ofInt 64 v &&& BitVec.ofInt 64 1073741823).toNat : Int) = _
  rw [IntKind.wrap_i64]
  omega
theorem and16m (v : Int) : ∃ m : Nat, bits .and .i64 v 65535 = (m : Int) ∧ m ≤ 65535 := by
  have h : (BitVec.ofInt 64 v &&& BitVec.ofInt 64 65535).toNat ≤ 65535 := by
    rw [BitVec.toNat_and]
    refine Nat.le_trans Nat.and_le_right ?_
    decide
  refine ⟨_, ?_, h⟩
  show IntKind.i64.wrap ((BitVec.ofInt 64 v &&& BitVec.ofInt 64 65535).toNat : Int) = _
  rw [IntKind.wrap_i64]
  omega
theorem and3m (v : Int) : ∃ m : Nat, bits .and .i64 v 3 = (m : Int) ∧ m ≤ 3 := by
  have h : (BitVec.ofInt 64 v &&& BitVec.ofInt 64 3).toNat ≤ 3 := by
    rw [BitVec.toNat_and]
    refine Nat.le_trans Nat.and_le_right ?_
    decide
  refine ⟨_, ?_, h⟩
  show IntKind.i64.wrap ((BitVec.ofInt 64 v &&& BitVec.ofInt 64 3).toNat : Int) = _
  rw [IntKind.wrap_i64]
  omega
theorem cB_setm (l : List UInt8) (k : Nat) (x : UInt8) : cB (l.set k x) = (cB l).set k (.int .u8 (x.toNat : Int)) := by simp [cB, List.map_set]
theorem toNat_ofNatm {n : Nat} (h : n < 256) : (UInt8.ofNat n).toNat = n := by rw [UInt8.toNat_ofNat']; exact Nat.mod_eq_of_lt h
theorem xor_nem (b : UInt8) (y : Nat) (h0 : y ≠ 0) (h1 : y < 256) : UInt8.ofNat (b.toNat ^^^ y) ≠ b := by
  intro h
  have h2 : (UInt8.ofNat (b.toNat ^^^ y)).toNat = b.toNat := by rw [h]
  rw [toNat_ofNatm (Nat.xor_lt_two_pow (n := 8) b.toNat_lt h1)] at h2
  have h3 : b.toNat ^^^ (b.toNat ^^^ y) = b.toNat ^^^ b.toNat := by rw [h2]
  rw [← Nat.xor_assoc, Nat.xor_self, Nat.zero_xor] at h3
  exact h0 h3

/-- append onto new bytes, whatever their capacity: a slice that is full, or a row that is owned. -/
theorem wpList_append_new {P : Program} (w : World) {ops : Array Oper} {rest : List Oper} {o : Oper} {a : Act} {Q : Exit → Act → World → Prop} (hgd : o.guard = none) (s x : Operand) (t : TypeId)
    (ho : o.op = .call { callee := .builtin .append, args := #[s, x], argTypes := #[t, t] })
    (base : Nat) (e : TypeId) (i : TypeInfo) (z : Value) (bytes : Nat) (ht : P.underlying t = some (.slice e)) (hi : P.info? e = some i) (hz : i.zero = some z)
    (hsize : i.size = 1) (hby : i.bytes = bytes) (hzs : z.cells.size = 1)
    (A0 : Option Addr) (n c0 : Nat) (xs : List Value) (hs : a.eval s = .slice A0 n c0) (hr0 : Rd w 1 A0 n xs) (hown : c0 = n ∨ w.ownsRow base e 1 (.slice A0 n c0) n xs)
    (ad : Addr) (m c : Nat) (news : List Value) (hx : a.eval x = .slice (some ad) m c) (hr : Rd w 1 (some ad) m news) (hm : 0 < m) (h1 : ∀ u ∈ news, u.oneCell' = true)
    (h63 : n + m ≤ maxLen) (hbytes : (n + m) * bytes ≤ 140737488355328) (hbase : base ≤ w.heap.size)
    (h : ∀ A' c' w', w'.ownsRow base e 1 (.slice A' (n + m) c') (n + m) (xs ++ news) → (∃ T, Chg T w w' ∧ ∀ k ∈ T, base ≤ k ∧ k ∈ blk A0) → wpList P ops Q rest (a.put o.dst (.slice A' (n + m) c')) w') : wpList P ops Q (o :: rest) a w := by
  rcases hown with hc | hown
  · refine wpList_append_grows w hgd s x t ho e i z 1 bytes ht hi hz hsize hby hzs (by omega) A0 n c0 xs hs (fun hA => ?_) (by rw [hr0.len]) (fun b hb j u hu => ?_) ad m c news hx (by rw [hr.len]) (fun j u hu => ?_) h1 (by omega) h63 hbytes (fun v' w' ho' hg => ?_)
    · rcases Nat.eq_zero_or_pos n with h0 | h0
      · exact ⟨h0, by omega⟩
      · obtain ⟨b, hb, _⟩ := hr0.at_ h0
        rw [hA] at hb; cases hb
    · have hn : 0 < n := by
        have h2 := (List.getElem?_eq_some_iff.1 hu).1
        rw [hr0.len] at h2; omega
      obtain ⟨b', hb', _, hcell⟩ := hr0.at_ hn
      rw [hb] at hb'; cases hb'
      exact hcell j u hu
    · obtain ⟨b', hb', _, hcell⟩ := hr.at_ hm
      cases hb'
      exact hcell j u hu
    · obtain ⟨A', c', rfl⟩ := own_form ho'
      exact h A' c' w' (own_base ho' (fun k hk => Nat.le_trans hbase (ho'.lt k hk).1)) ⟨[], Chg.of_grown hg, by simp⟩
  · refine wpList_append_rd w hgd s x t ho base e i z 1 bytes ht hi hz hsize hby hzs (by omega) (.slice A0 n c0) n xs hs hown (some ad) m c news hx hr h1 h63 hbytes hbase (fun A' c' w' ho' hg hb => ?_)
    exact h A' c' w' ho' ⟨_, Chg.of_grown hg, fun k hk => by
      have hk' : (Value.slice A0 n c0).ownBlock = some k := by simpa using hk
      exact ⟨(hown.lt k hk').1, bo A0 n c0 k hk'⟩⟩
end Go.Proofs.Ytdfkednggjelcaa
