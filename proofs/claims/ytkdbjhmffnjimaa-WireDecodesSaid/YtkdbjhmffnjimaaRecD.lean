
/-
  rec.Decode.
-/
import Derived.Test.YtkdbjhmffnjimaaRecS
import Derived.Test.YtkdbjhmffnjimaaMOct
import Derived.Test.YtkdbjhmffnjimaaMBase
namespace Go.Proofs.Ytkdbjhmffnjimaa
open Go.RowKit
set_option linter.unusedVariables false

def DecRPost (w : World) (o : Option Rc) (e : Ending) (w' : World) : Prop := ∃ x : RcV, e = .returned (.tuple #[.agg x.cells.toArray, .int .i64 (if o.isSome then 0 else 3)]) ∧ x.r = o.getD Rc.z ∧
  w'.ownsRow w.heap.size 5 1 (.slice x.A x.r.val.length x.cp) x.r.val.length (cB x.r.val) ∧ Chg [] w w'
theorem rec_size : (Try.prog.info? 50).map (·.size) = some 9 := by kernel_rfl
/-- A record and something else are handed back. -/
theorem ret_rec2 {fn : Func} {p q : Tmp} {tmps : Array Value} {w : World} {g : Nat} {T : TypeId} {cs : Array Value} {v : Value} {Post : Ending → World → Prop} (hs : cs.size = 9) (h : fn.results = #[.cell p 50, .tmp q])
    (hp : tmps.getD p undef = .pointer (some ⟨g, 0, none⟩)) (hq : tmps.getD q undef = v) (hg : At w g T cs) (hpost : Post (.returned (.tuple #[.agg cs, v])) w) :
    bodyPost Try.prog fn Post Exit.ret ⟨tmps, []⟩ w := by
  refine bodyPost_ret (v := .tuple #[.agg cs, v]) ?_ rfl hpost
  have hp' : tmps[p]?.getD undef = .pointer (some ⟨g, 0, none⟩) := by simpa using hp
  have hq' : tmps[q]?.getD undef = v := by simpa using hq
  simp [results, h, hp', hq', asAddr, run_loadVar_row w g T 50 _ (0, 0) _ hg Try.underlying50 rfl (rec_size.trans (by rw [hs]))]

theorem At.set9 {w : World} {g : Nat} {t : TypeId} {v0 v1 v2 v3 v4 v5 v6 v7 v8 : Value} (h : At w g t #[v0, v1, v2, v3, v4, v5, v6, v7, v8]) (u0 u1 u2 u3 u4 u5 u6 u7 u8 : Value) : At (((((((((w.setCell ⟨g, 0, none⟩ u0).setCell ⟨g, 1, none⟩ u1).setCell ⟨g, 2, none⟩ u2).setCell ⟨g, 3, none⟩ u3).setCell ⟨g, 4, none⟩ u4).setCell ⟨g, 5, none⟩ u5).setCell ⟨g, 6, none⟩ u6).setCell ⟨g, 7, none⟩ u7).setCell ⟨g, 8, none⟩ u8) g t #[u0, u1, u2, u3, u4, u5, u6, u7, u8] := by
  simpa using ((((((((h.set_ 0 u0).set_ 1 u1).set_ 2 u2).set_ 3 u3).set_ 4 u4).set_ 5 u5).set_ 6 u6).set_ 7 u7).set_ 8 u8
theorem Chg.set9 {S : List Nat} {a w : World} (h : Chg S a w) {g : Nat} (hg : g ∈ S ∨ a.heap.size ≤ g) (u0 u1 u2 u3 u4 u5 u6 u7 u8 : Value) : Chg S a (((((((((w.setCell ⟨g, 0, none⟩ u0).setCell ⟨g, 1, none⟩ u1).setCell ⟨g, 2, none⟩ u2).setCell ⟨g, 3, none⟩ u3).setCell ⟨g, 4, none⟩ u4).setCell ⟨g, 5, none⟩ u5).setCell ⟨g, 6, none⟩ u6).setCell ⟨g, 7, none⟩ u7).setCell ⟨g, 8, none⟩ u8) :=
  ((((((((h.setCell (p := ⟨g, 0, none⟩) hg u0).setCell (p := ⟨g, 1, none⟩) hg u1).setCell (p := ⟨g, 2, none⟩) hg u2).setCell (p := ⟨g, 3, none⟩) hg u3).setCell (p := ⟨g, 4, none⟩) hg u4).setCell (p := ⟨g, 5, none⟩) hg u5).setCell (p := ⟨g, 6, none⟩) hg u6).setCell (p := ⟨g, 7, none⟩) hg u7).setCell (p := ⟨g, 8, none⟩) hg u8
theorem RrG.base {Ty : TypeId} {w0 w1 : World} {B : Nat} {S : List Nat} {w : World} {A : Option Addr} {c : Nat} {L : List UInt8} {b : Bool} (h : RrG Ty w1 B S w A c L b) (k : Chg [B] w0 w) : RrG Ty w0 B S w A c L b := ⟨h.at_, h.rd, h.cap, k, h.blk, h.ne, h.err⟩

theorem RrG.stay {Ty : TypeId} {w0 : World} {B : Nat} {S : List Nat} {w w' : World} {A : Option Addr} {c : Nat} {L : List UInt8} {b : Bool} (h : RrG Ty w0 B S w A c L b) {U : List Nat} (hc : Chg U w w') (hU : ∀ k ∈ U, k ≠ B ∧ k ∉ S) : RrG Ty w' B S w' A c L b :=
  ⟨h.at_.keep hc (fun hm => (hU B hm).1 rfl), h.rd.keep hc (fun h0 k hk hm => (hU k hm).2 (h.blk h0 k hk)), h.cap, Chg.refl _ _, h.blk, h.ne, h.err⟩

set_option maxRecDepth 100000 in
set_option maxHeartbeats 6400000 in
theorem recDecode_any (w : World) (A : Option Addr) (n c : Nat) (L : List UInt8) (hn : L.length = n) (hr : Rd w 1 A L.length (cB L)) (hl : L.length ≤ 1099511627776) :
    Calls Try.prog 65 #[.slice A n c] w (DecRPost w (decR L)) := by
  subst hn
  have HR := Lib.hid hr
  clear hr
  -- what is read, one behind the other
  have HX := Lib.hid (reads_of L)
  obtain ⟨x, hx⟩ : ∃ x, Hid (readR L = x) := ⟨_, rfl⟩
  have HD : Hid (decR L = if x.ok then some x.rc else none) := by unfold Hid; rw [← hx.out]; rfl
  rw [hx.out] at HX
  obtain ⟨L1, L2, L3, L4, L5, L6, L7, b1, b2, b3, b4, b5, b6, b7, t1, t2, t3, t4, t5, t6, t7, t8⟩ := HX.out.all
  obtain ⟨xo, xq, xkey, xm, xc, xg, xt, xval, xrest, xbad⟩ := x
  simp only at t1 t2 t3 t4 t5 t6 t7 t8
  clear HX hx
  have n2 : Hid (numsSt L false 2 = (L2, b2) ∧ numAt L false 0 = xo ∧ numAt L false 1 = xq) := by
    refine ⟨?_, ?_, ?_⟩
    · simp only [numsSt, t1, t2]
    · simp only [numAt, numsSt, t1]
    · simp only [numAt, numsSt, t1, t2]
  have n4 : Hid (numsSt L3 b3 4 = (L7, b7) ∧ numAt L3 b3 0 = xm ∧ numAt L3 b3 1 = xc ∧ numAt L3 b3 2 = xg ∧ numAt L3 b3 3 = xt) := by
    refine ⟨?_, ?_, ?_, ?_, ?_⟩
    · simp only [numsSt, t4, t5, t6, t7]
    · simp only [numAt, numsSt, t4]
    · simp only [numAt, numsSt, t4, t5]
    · simp only [numAt, numsSt, t4, t5, t6]
    · simp only [numAt, numsSt, t4, t5, t6, t7]
  have hl2 : L2.length ≤ 1099511627776 := by have := numsSt_len L false 2; rw [n2.out.1] at this; simp only at this; omega
  have hl3 : L3.length ≤ 1099511627776 := by have := (takeRow_len L2 b2).1; rw [t3] at this; simp only at this; omega
  have hlk : xkey.length ≤ 1099511627776 := by have := (takeRow_len L2 b2).2; rw [t3] at this; simp only at this; omega
  have hl7 : L7.length ≤ 1099511627776 := by have := numsSt_len L3 b3 4; rw [n4.out.1] at this; simp only at this; omega
  have hlv : xval.length ≤ 1099511627776 := by have := (takeRow_len L7 b7).2; rw [t8] at this; simp only at this; omega
  have T3 := Lib.hid t3
  have T8 := Lib.hid t8
  clear t1 t2 t3 t4 t5 t6 t7 t8
  go_enter Try.func65, Try.ntmps65
  go_wp2_with (fail)
  refine (newReader_any _ A _ c L rfl ?_ hl).mono ?_
  · exact ((HR.out.alloc _).alloc _).alloc _
  rintro e w4 ⟨B, S, A1, c1, rfl, k4, hch4, hB, hS, hnd⟩
  have a0 := (((At.new w 50 #[.int .i64 0, .int .i64 0, .string ⟨#[]⟩, .int .i64 0, .int .i64 0, .int .i64 0, .slice none 0 0, .bool false, .int .i64 0]).al (.cells #[.int .i64 0, .int .i64 0, .string ⟨#[]⟩, .int .i64 0, .int .i64 0, .int .i64 0, .slice none 0 0, .bool false, .int .i64 0] 50)).al (.cells #[.int .i64 0] 3)).keep hch4 (by simp)
  have a1 := ((At.new (w.alloc (.cells #[.int .i64 0, .int .i64 0, .string ⟨#[]⟩, .int .i64 0, .int .i64 0, .int .i64 0, .slice none 0 0, .bool false, .int .i64 0] 50)) 50 #[.int .i64 0, .int .i64 0, .string ⟨#[]⟩, .int .i64 0, .int .i64 0, .int .i64 0, .slice none 0 0, .bool false, .int .i64 0]).al (.cells #[.int .i64 0] 3)).keep hch4 (by simp)
  have a2 := (At.new ((w.alloc (.cells #[.int .i64 0, .int .i64 0, .string ⟨#[]⟩, .int .i64 0, .int .i64 0, .int .i64 0, .slice none 0 0, .bool false, .int .i64 0] 50)).alloc (.cells #[.int .i64 0, .int .i64 0, .string ⟨#[]⟩, .int .i64 0, .int .i64 0, .int .i64 0, .slice none 0 0, .bool false, .int .i64 0] 50)) 3 #[.int .i64 0]).keep hch4 (by simp)
  have hc4 : Chg [] w w4 := ((((Chg.refl [] w).alloc (.cells #[.int .i64 0, .int .i64 0, .string ⟨#[]⟩, .int .i64 0, .int .i64 0, .int .i64 0, .slice none 0 0, .bool false, .int .i64 0] 50)).alloc (.cells #[.int .i64 0, .int .i64 0, .string ⟨#[]⟩, .int .i64 0, .int .i64 0, .int .i64 0, .slice none 0 0, .bool false, .int .i64 0] 50)).alloc (.cells #[.int .i64 0] 3)).trans hch4 (by simp)
  have hs4 : w.heap.size + 3 ≤ w4.heap.size := by have := hch4.size; simp at this; omega
  simp at a1 a2 hB
  have hS' : Hid (∀ k ∈ S, w.heap.size + 3 ≤ k ∧ k < w4.heap.size) := fun k hk => by have := hS k hk; simp at this; exact ⟨by omega, this.2⟩
  have r4 : RrG 100 w B S w4 A1 c1 L false := k4.base (hc4.mono (by simp))
  have hB4 := k4.at_.lt
  clear hS k4 hch4
  go_wp2_with (fail)
  have q5 := (Chg.refl [] w4).alloc (.cells #[.pointer (some ⟨w.heap.size + 1, 0, none⟩), .pointer (some ⟨w.heap.size + 1, 1, none⟩)] 69)
  refine (rnums_any B S [w.heap.size + 1] w _ A1 c1 L false (r4.keep0 q5) hl (some ⟨w4.heap.size, 0, none⟩) 2 2 [some ⟨w.heap.size + 1, 0, none⟩, some ⟨w.heap.size + 1, 1, none⟩] rfl ?_ (by simp) ?_ ?_ ?_
    (fun j w1 => At w1 (w.heap.size + 1) 50 #[.int .i64 (if 0 < j then (numAt L false 0 : Int) else 0), .int .i64 (if 1 < j then (numAt L false 1 : Int) else 0), .string ⟨#[]⟩, .int .i64 0, .int .i64 0, .int .i64 0, .slice none 0 0, .bool false, .int .i64 0]) ?_ ?_ ?_ ?_).mono ?_
  · exact Rd.new' rfl rfl rfl
  · refine Away.at (fun hx => ?_)
    simp only [List.mem_cons, List.not_mem_nil, or_false] at hx
    omega
  · intro k hk
    obtain rfl := List.mem_singleton.1 hk
    exact ⟨by omega, fun hm => by have := hS'.out _ hm; omega⟩
  · intro ad hx
    simp only [List.mem_cons, List.not_mem_nil, or_false, Option.some.injEq] at hx
    rcases hx with rfl | rfl <;> simp
  · exact a1.al _
  · intro j w1 w2 hI hc
    exact hI.keep hc (by simp; omega)
  · intro j w1 hj hI
    rcases j with _ | _ | j <;> simp at hj
  · intro j w1 ad hj hI
    rcases j with _ | _ | j
    · obtain rfl : (⟨w.heap.size + 1, 0, none⟩ : Addr) = ad := by simpa using hj
      refine ⟨⟨_, (hI.cell 0).trans rfl⟩, hI.free 0, ?_⟩
      simpa using hI.set_ 0 _
    · obtain rfl : (⟨w.heap.size + 1, 1, none⟩ : Addr) = ad := by simpa using hj
      refine ⟨⟨_, (hI.cell 1).trans rfl⟩, hI.free 1, ?_⟩
      simpa using hI.set_ 1 (.int .i64 (numAt L false 1))
    · simp at hj
  rintro e w6 ⟨rfl, a1', hch6, A6, c6, r6⟩
  have r6' : RrG 100 w6 B S w6 A6 c6 L2 b2 := by
    have h := r6
    simp only [List.length_cons, List.length_nil, Nat.zero_add, Nat.reduceAdd, n2.out.1] at h
    exact h
  have a1' : At w6 (w.heap.size + 1) 50 #[.int .i64 (xo : Int), .int .i64 (xq : Int), .string ⟨#[]⟩, .int .i64 0, .int .i64 0, .int .i64 0, .slice none 0 0, .bool false, .int .i64 0] := by
    simpa [n2.out.2.1, n2.out.2.2] using a1'
  have hU : Hid (∀ k ∈ ([w.heap.size + 1, w.heap.size + 2, w.heap.size] : List Nat), k ≠ B ∧ k ∉ S) := fun k hk => by
    simp only [List.mem_cons, List.not_mem_nil, or_false] at hk
    exact ⟨by omega, fun hm => by have := hS'.out k hm; omega⟩
  have a0' := (a0.al (.cells #[.pointer (some ⟨w.heap.size + 1, 0, none⟩), .pointer (some ⟨w.heap.size + 1, 1, none⟩)] 69)).keep hch6 (by simp; omega)
  have a2' := (a2.al (.cells #[.pointer (some ⟨w.heap.size + 1, 0, none⟩), .pointer (some ⟨w.heap.size + 1, 1, none⟩)] 69)).keep hch6 (by simp; omega)
  have hc6 : Chg [] w w6 := (hc4.t0 q5).trans hch6 (by intro x hx; simp only [List.mem_cons, List.not_mem_nil, or_false] at hx; omega)
  clear a0 a1 a2 r6 r4 q5 hch6 hc4
  go_wp2_with (fail)
  refine (rbytes_any B S w6 _ A6 c6 L2 b2 r6' hl2).mono ?_
  rw [T3.out]
  rintro e w7 ⟨A7, c7, rfl, hown7, A8, c8, r7⟩
  simp only at hown7 r7 ⊢
  have e7 := fun w => run_str (P := Try.prog) w 28 9 5 Try.underlying28 Try.underlying5 Try.underlying9 A7 xkey.length c7 xkey rfl
  have e7 := e7 w7 (Rd.of_own hown7)
  have a0 := a0'.keep r7.chg (by simp; omega)
  have a1 := a1'.keep r7.chg (by simp; omega)
  have a2 := a2'.keep r7.chg (by simp; omega)
  have hc7 : Chg [] w w7 := hc6.trans r7.chg (by simp; omega)
  have hz7 := a1.lt
  have y2 := a1.cell 2
  have f2 := a1.free 2
  simp only [List.getElem?_toArray, List.getElem?_cons_zero, List.getElem?_cons_succ] at y2
  clear a0' a1' a2' r6' hc6 hown7
  go_wp2_with (fail)
  have g1 : At (w7.setCell ⟨w.heap.size + 1, 2, none⟩ (.string ⟨xkey.toArray⟩)) (w.heap.size + 1) 50 #[.int .i64 (xo : Int), .int .i64 (xq : Int), .string ⟨xkey.toArray⟩, .int .i64 0, .int .i64 0, .int .i64 0, .slice none 0 0, .bool false, .int .i64 0] := by simpa using a1.set_ 2 (.string ⟨xkey.toArray⟩)
  have q8 : Chg [w.heap.size + 1] w7 (w7.setCell ⟨w.heap.size + 1, 2, none⟩ (.string ⟨xkey.toArray⟩)) := (Chg.refl _ _).setCell (.inl (by simp)) _
  have g0 := a0.keep q8 (by simp)
  have g2 := a2.keep q8 (by simp)
  have r8 := r7.stay q8 (fun k hk => hU.out k (by simp at hk; simp [hk]))
  have hc8 : Chg [] w (w7.setCell ⟨w.heap.size + 1, 2, none⟩ (.string ⟨xkey.toArray⟩)) := hc7.trans q8 (by simp)
  have hz8 : w7.heap.size = (w7.setCell ⟨w.heap.size + 1, 2, none⟩ (.string ⟨xkey.toArray⟩)).heap.size := by simp [World.setCell]
  rw [hz8]
  clear hz8 hz7 y2 f2 e7 a0 a1 a2 q8 r7 hc7
  generalize w7.setCell ⟨w.heap.size + 1, 2, none⟩ (.string ⟨xkey.toArray⟩) = w8 at *
  have hs8 := g2.lt
  have hB8 := r8.at_.lt
  have q9 := (Chg.refl [] w8).alloc (.cells #[.pointer (some ⟨w.heap.size + 1, 3, none⟩), .pointer (some ⟨w.heap.size + 1, 4, none⟩), .pointer (some ⟨w.heap.size + 2, 0, none⟩), .pointer (some ⟨w.heap.size + 1, 8, none⟩)] 69)
  refine (rnums_any B S [w.heap.size + 1, w.heap.size + 2] w8 _ A8 c8 L3 b3 (r8.keep0 q9) hl3 (some ⟨w8.heap.size, 0, none⟩) 4 4 [some ⟨w.heap.size + 1, 3, none⟩, some ⟨w.heap.size + 1, 4, none⟩, some ⟨w.heap.size + 2, 0, none⟩, some ⟨w.heap.size + 1, 8, none⟩] rfl ?_ (by simp) ?_ ?_ ?_
    (fun j w1 => At w1 (w.heap.size + 1) 50 #[.int .i64 (xo : Int), .int .i64 (xq : Int), .string ⟨xkey.toArray⟩, .int .i64 (if 0 < j then (numAt L3 b3 0 : Int) else 0), .int .i64 (if 1 < j then (numAt L3 b3 1 : Int) else 0), .int .i64 0, .slice none 0 0, .bool false, .int .i64 (if 3 < j then (numAt L3 b3 3 : Int) else 0)] ∧
      At w1 (w.heap.size + 2) 3 #[.int .i64 (if 2 < j then (numAt L3 b3 2 : Int) else 0)]) ?_ ?_ ?_ ?_).mono ?_
  · exact Rd.new' rfl rfl rfl
  · refine Away.at (fun hx => ?_)
    simp only [List.mem_cons, List.not_mem_nil, or_false] at hx
    omega
  · intro k hk
    exact hU.out k (by simp at hk ⊢; omega)
  · intro ad hx
    simp only [List.mem_cons, List.not_mem_nil, or_false, Option.some.injEq] at hx
    rcases hx with rfl | rfl | rfl | rfl <;> simp
  · exact ⟨g1.al _, g2.al _⟩
  · intro j w1 w2 hI hc
    exact ⟨hI.1.keep hc (by simp; omega), hI.2.keep hc (by simp; omega)⟩
  · intro j w1 hj hI
    rcases j with _ | _ | _ | _ | j <;> simp at hj
  · intro j w1 ad hj hI
    have z1 : Chg [w.heap.size + 1] w1 (w1.setCell ad (.int .i64 (numAt L3 b3 j))) ∨ ad.block ≠ w.heap.size + 1 := by
      by_cases h : ad.block = w.heap.size + 1
      · exact .inl ((Chg.refl _ _).setCell (.inl (by simp [h])) _)
      · exact .inr h
    rcases j with _ | _ | _ | _ | j
    · obtain rfl : (⟨w.heap.size + 1, 3, none⟩ : Addr) = ad := by simpa using hj
      refine ⟨⟨_, (hI.1.cell 3).trans rfl⟩, hI.1.free 3, ?_, hI.2.keep ((Chg.refl [w.heap.size + 1] _).setCell (.inl (by simp)) _) (by simp)⟩
      simpa using hI.1.set_ 3 (.int .i64 (numAt L3 b3 0))
    · obtain rfl : (⟨w.heap.size + 1, 4, none⟩ : Addr) = ad := by simpa using hj
      refine ⟨⟨_, (hI.1.cell 4).trans rfl⟩, hI.1.free 4, ?_, hI.2.keep ((Chg.refl [w.heap.size + 1] _).setCell (.inl (by simp)) _) (by simp)⟩
      simpa using hI.1.set_ 4 (.int .i64 (numAt L3 b3 1))
    · obtain rfl : (⟨w.heap.size + 2, 0, none⟩ : Addr) = ad := by simpa using hj
      refine ⟨⟨_, (hI.2.cell 0).trans rfl⟩, hI.2.free 0, hI.1.keep ((Chg.refl [w.heap.size + 2] _).setCell (.inl (by simp)) _) (by simp), ?_⟩
      simpa using hI.2.set_ 0 (.int .i64 (numAt L3 b3 2))
    · obtain rfl : (⟨w.heap.size + 1, 8, none⟩ : Addr) = ad := by simpa using hj
      refine ⟨⟨_, (hI.1.cell 8).trans rfl⟩, hI.1.free 8, ?_, hI.2.keep ((Chg.refl [w.heap.size + 1] _).setCell (.inl (by simp)) _) (by simp)⟩
      simpa using hI.1.set_ 8 (.int .i64 (numAt L3 b3 3))
    · simp at hj
  rintro e w9 ⟨rfl, ⟨a1', a2'⟩, hch9, A9, c9, r9⟩
  have r9' : RrG 100 w9 B S w9 A9 c9 L7 b7 := by
    have h := r9
    simp only [List.length_cons, List.length_nil, Nat.zero_add, Nat.reduceAdd, n4.out.1] at h
    exact h
  have a1 : At w9 (w.heap.size + 1) 50 #[.int .i64 (xo : Int), .int .i64 (xq : Int), .string ⟨xkey.toArray⟩, .int .i64 (xm : Int), .int .i64 (xc : Int), .int .i64 0, .slice none 0 0, .bool false, .int .i64 (xt : Int)] := by
    simpa [n4.out.2.1, n4.out.2.2.1, n4.out.2.2.2.2] using a1'
  have a2 : At w9 (w.heap.size + 2) 3 #[.int .i64 (xg : Int)] := by
    simpa [n4.out.2.2.2.1] using a2'
  have a0 := (g0.al (.cells #[.pointer (some ⟨w.heap.size + 1, 3, none⟩), .pointer (some ⟨w.heap.size + 1, 4, none⟩), .pointer (some ⟨w.heap.size + 2, 0, none⟩), .pointer (some ⟨w.heap.size + 1, 8, none⟩)] 69)).keep hch9 (by simp; omega)
  have hc9 : Chg [] w w9 := (hc8.t0 q9).trans hch9 (by intro x hx; simp only [List.mem_cons, List.not_mem_nil, or_false] at hx; omega)
  clear g0 g1 g2 a1' a2' r8 r9 q9 hch9 hc8
  go_wp2_with (fail)
  refine (rbytes_any B S w9 _ A9 c9 L7 b7 r9' hl7).mono ?_
  rw [T8.out]
  rintro e w10 ⟨A10, c10, rfl, hown10, A11, c11, r10⟩
  simp only at hown10 r10 ⊢
  have hs9 := a2.lt
  have g0 := a0.keep r10.chg (by simp; omega)
  have g1 := a1.keep r10.chg (by simp; omega)
  have g2 := a2.keep r10.chg (by simp; omega)
  have hc10 : Chg [] w w10 := hc9.trans r10.chg (by simp; omega)
  have own10 := own_up hown10 (show w.heap.size + 3 ≤ w9.heap.size by omega)
  have y0 := g1.cell 0
  have y5 := g1.cell 5
  have y6 := g1.cell 6
  have y7 := g1.cell 7
  have f5 := g1.free 5
  have f6 := g1.free 6
  have f7 := g1.free 7
  have z0 := g2.cell 0
  simp only [List.getElem?_toArray, List.getElem?_cons_zero, List.getElem?_cons_succ] at y0 y5 y6 y7 z0
  clear a0 a1 a2 r9' hc9 hown10
  go_wp2_with (fail)
  have hxg : ((xg : Int) == 1) = (xg == 1) := by
    by_cases h : xg = 1
    · rw [h]; rfl
    · rw [beq_eq_false_iff_ne.2 h, beq_eq_false_iff_ne.2 (by omega)]
  rw [hxg]
  have q11 : Chg [w.heap.size + 1] w10 (((w10.setCell ⟨w.heap.size + 1, 6, none⟩ (.slice A10 xval.length c10)).setCell ⟨w.heap.size + 1, 5, none⟩ (.int .i64 (xo : Int))).setCell ⟨w.heap.size + 1, 7, none⟩ (.bool (xg == 1))) :=
    (((Chg.refl _ _).setCell (.inl (by simp)) _).setCell (.inl (by simp)) _).setCell (.inl (by simp)) _
  have a1 : At (((w10.setCell ⟨w.heap.size + 1, 6, none⟩ (.slice A10 xval.length c10)).setCell ⟨w.heap.size + 1, 5, none⟩ (.int .i64 (xo : Int))).setCell ⟨w.heap.size + 1, 7, none⟩ (.bool (xg == 1))) (w.heap.size + 1) 50 #[.int .i64 (xo : Int), .int .i64 (xq : Int), .string ⟨xkey.toArray⟩, .int .i64 (xm : Int), .int .i64 (xc : Int), .int .i64 (xo : Int), .slice A10 xval.length c10, .bool (xg == 1), .int .i64 (xt : Int)] := by
    simpa using ((g1.set_ 6 (.slice A10 xval.length c10)).set_ 5 (.int .i64 (xo : Int))).set_ 7 (.bool (xg == 1))
  have a0 := g0.keep q11 (by simp)
  have a2 := g2.keep q11 (by simp)
  have r11 := r10.stay q11 (fun k hk => hU.out k (by simp at hk; simp [hk]))
  have own11 : (((w10.setCell ⟨w.heap.size + 1, 6, none⟩ (.slice A10 xval.length c10)).setCell ⟨w.heap.size + 1, 5, none⟩ (.int .i64 (xo : Int))).setCell ⟨w.heap.size + 1, 7, none⟩ (.bool (xg == 1))).ownsRow (w.heap.size + 3) 5 1 (.slice A10 xval.length c10) xval.length (cB xval) := own_keep own10 q11 (fun k hk hm => by have := (own10.lt k hk).1; simp at hm; omega)
  have hc11 : Chg [] w _ := hc10.trans q11 (by simp)
  clear y0 y5 y6 y7 f5 f6 f7 z0 g0 g1 g2 r10 own10 hc10 q11 hxg
  generalize (((w10.setCell ⟨w.heap.size + 1, 6, none⟩ (.slice A10 xval.length c10)).setCell ⟨w.heap.size + 1, 5, none⟩ (.int .i64 (xo : Int))).setCell ⟨w.heap.size + 1, 7, none⟩ (.bool (xg == 1))) = w11 at *
  refine (whole_any B S w11 _ A11 c11 xrest xbad r11).mono ?_
  rintro e w' ⟨rfl, rfl⟩
  obtain ⟨wh, hwh⟩ : ∃ wh, Hid ((!xbad && decide (xrest = [])) = wh) := ⟨_, rfl⟩
  rw [hwh.out]
  have hok : Hid ((⟨xo, xq, xkey, xm, xc, xg, xt, xval, xrest, xbad⟩ : Red).ok = (wh && decide (xg ≤ 1) && isR ⟨xo, xq, xkey, xm, xc, xo, xval, xg == 1, xt⟩)) := by
    unfold Hid; rw [← hwh.out]; rfl
  have y0 := a0.cell 0
  have e0 := a0.cell 1
  have e1 := a0.cell 2
  have e2 := a0.cell 3
  have e3 := a0.cell 4
  have e4 := a0.cell 5
  have e5 := a0.cell 6
  have e6 := a0.cell 7
  have e7 := a0.cell 8
  have f0 := a0.free 0
  have f1 := a0.free 1
  have f2 := a0.free 2
  have f3 := a0.free 3
  have f4 := a0.free 4
  have f5 := a0.free 5
  have f6 := a0.free 6
  have f7 := a0.free 7
  have f8 := a0.free 8
  have z0 := a2.cell 0
  simp only [List.getElem?_toArray, List.getElem?_cons_zero, List.getElem?_cons_succ] at y0 e0 e1 e2 e3 e4 e5 e6 e7 z0
  clear hwh
  cases wh
  · have hno : (⟨xo, xq, xkey, xm, xc, xg, xt, xval, xrest, xbad⟩ : Red).ok = false := by rw [hok.out]; simp
    have HNo := Lib.hid hno
    clear hno
    go_wp2_with (fail)
    refine ret_rec2 (g := w.heap.size) (T := 50) rfl Try.results65 rfl rfl (At.set9 a0 (.int .i64 0) (.int .i64 0) (.string ⟨#[]⟩) (.int .i64 0) (.int .i64 0) (.int .i64 0) (.slice none 0 0) (.bool false) (.int .i64 0)) ?_
    have HN := HD.out
    rw [HNo.out] at HN
    rw [HN]
    exact ⟨⟨Rc.z, none, 0⟩, rfl, rfl, own_none _ _ _ _, Chg.set9 hc11 (.inr (Nat.le_refl _)) (.int .i64 0) (.int .i64 0) (.string ⟨#[]⟩) (.int .i64 0) (.int .i64 0) (.int .i64 0) (.slice none 0 0) (.bool false) (.int .i64 0)⟩
  · by_cases hg : 1 < xg
    · have hno : (⟨xo, xq, xkey, xm, xc, xg, xt, xval, xrest, xbad⟩ : Red).ok = false := by rw [hok.out, decide_eq_false (by omega)]; simp
      have HNo := Lib.hid hno
      clear hno
      go_wp2_with (fail)
      refine ret_rec2 (g := w.heap.size) (T := 50) rfl Try.results65 rfl rfl (At.set9 a0 (.int .i64 0) (.int .i64 0) (.string ⟨#[]⟩) (.int .i64 0) (.int .i64 0) (.int .i64 0) (.slice none 0 0) (.bool false) (.int .i64 0)) ?_
      have HN := HD.out
      rw [HNo.out] at HN
      rw [HN]
      exact ⟨⟨Rc.z, none, 0⟩, rfl, rfl, own_none _ _ _ _, Chg.set9 hc11 (.inr (Nat.le_refl _)) (.int .i64 0) (.int .i64 0) (.string ⟨#[]⟩) (.int .i64 0) (.int .i64 0) (.int .i64 0) (.slice none 0 0) (.bool false) (.int .i64 0)⟩
    · have b0 := a1.cell 0
      have b1' := a1.cell 1
      have b2' := a1.cell 2
      have b3' := a1.cell 3
      have b4' := a1.cell 4
      have b5' := a1.cell 5
      have b6' := a1.cell 6
      have b7' := a1.cell 7
      have b8' := a1.cell 8
      simp only [List.getElem?_toArray, List.getElem?_cons_zero, List.getElem?_cons_succ] at b0 b1' b2' b3' b4' b5' b6' b7' b8'
      go_wp2_with (fail)
      refine (recIs_any _ xo xq xkey xm xc xo A10 xval c10 (xg == 1) xt).mono ?_
      rintro e w12 ⟨rfl, hch12⟩
      have k0 := a0.keep hch12 (by simp)
      have k1 := a1.keep hch12 (by simp)
      have own12 := own_k0 own11 hch12
      have hc12 := hc11.trans hch12 (by simp)
      clear y0 e0 e1 e2 e3 e4 e5 e6 e7 f0 f1 f2 f3 f4 f5 f6 f7 f8 z0 b0 b1' b2' b3' b4' b5' b6' b7' b8' a0 a1 a2 r11 own11 hc11 hch12
      have y0 := k0.cell 0
      have e0 := k0.cell 1
      have e1 := k0.cell 2
      have e2 := k0.cell 3
      have e3 := k0.cell 4
      have e4 := k0.cell 5
      have e5 := k0.cell 6
      have e6 := k0.cell 7
      have e7 := k0.cell 8
      have f0 := k0.free 0
      have f1 := k0.free 1
      have f2 := k0.free 2
      have f3 := k0.free 3
      have f4 := k0.free 4
      have f5 := k0.free 5
      have f6 := k0.free 6
      have f7 := k0.free 7
      have f8 := k0.free 8
      have b0 := k1.cell 0
      have b1' := k1.cell 1
      have b2' := k1.cell 2
      have b3' := k1.cell 3
      have b4' := k1.cell 4
      have b5' := k1.cell 5
      have b6' := k1.cell 6
      have b7' := k1.cell 7
      have b8' := k1.cell 8
      simp only [List.getElem?_toArray, List.getElem?_cons_zero, List.getElem?_cons_succ] at y0 e0 e1 e2 e3 e4 e5 e6 e7 b0 b1' b2' b3' b4' b5' b6' b7' b8'
      obtain ⟨p, hp⟩ : ∃ p, Hid (isR ⟨xo, xq, xkey, xm, xc, xo, xval, xg == 1, xt⟩ = p) := ⟨_, rfl⟩
      rw [hp.out] at hok ⊢
      cases p
      · have HNo : Hid ((⟨xo, xq, xkey, xm, xc, xg, xt, xval, xrest, xbad⟩ : Red).ok = false) := by unfold Hid; rw [hok.out]; simp
        go_wp2_with (fail)
        refine ret_rec2 (g := w.heap.size) (T := 50) rfl Try.results65 rfl rfl (At.set9 k0 (.int .i64 0) (.int .i64 0) (.string ⟨#[]⟩) (.int .i64 0) (.int .i64 0) (.int .i64 0) (.slice none 0 0) (.bool false) (.int .i64 0)) ?_
        have HN := HD.out
        rw [HNo.out] at HN
        rw [HN]
        exact ⟨⟨Rc.z, none, 0⟩, rfl, rfl, own_none _ _ _ _, Chg.set9 hc12 (.inr (Nat.le_refl _)) (.int .i64 0) (.int .i64 0) (.string ⟨#[]⟩) (.int .i64 0) (.int .i64 0) (.int .i64 0) (.slice none 0 0) (.bool false) (.int .i64 0)⟩
      · have HYes : Hid ((⟨xo, xq, xkey, xm, xc, xg, xt, xval, xrest, xbad⟩ : Red).ok = true) := by unfold Hid; rw [hok.out, decide_eq_true (by omega)]; simp
        go_wp2_with (fail)
        refine ret_rec2 (g := w.heap.size) (T := 50) rfl Try.results65 rfl rfl (At.set9 k0 (.int .i64 (xo : Int)) (.int .i64 (xq : Int)) (.string ⟨xkey.toArray⟩) (.int .i64 (xm : Int)) (.int .i64 (xc : Int)) (.int .i64 (xo : Int)) (.slice A10 xval.length c10) (.bool (xg == 1)) (.int .i64 (xt : Int))) ?_
        have HN := HD.out
        rw [HYes.out] at HN
        rw [HN]
        refine ⟨⟨⟨xo, xq, xkey, xm, xc, xo, xval, xg == 1, xt⟩, A10, c10⟩, rfl, rfl, ?_, Chg.set9 hc12 (.inr (Nat.le_refl _)) (.int .i64 (xo : Int)) (.int .i64 (xq : Int)) (.string ⟨xkey.toArray⟩) (.int .i64 (xm : Int)) (.int .i64 (xc : Int)) (.int .i64 (xo : Int)) (.slice A10 xval.length c10) (.bool (xg == 1)) (.int .i64 (xt : Int))⟩
        refine own_up (base := w.heap.size + 3) (own_keep own12 (Chg.set9 (Chg.refl [w.heap.size] _) (.inl (by simp)) (.int .i64 (xo : Int)) (.int .i64 (xq : Int)) (.string ⟨xkey.toArray⟩) (.int .i64 (xm : Int)) (.int .i64 (xc : Int)) (.int .i64 (xo : Int)) (.slice A10 xval.length c10) (.bool (xg == 1)) (.int .i64 (xt : Int))) (fun k hk hm => ?_)) (by omega)
        have := (own12.lt k hk).1
        simp at hm
        omega
end Go.Proofs.Ytkdbjhmffnjimaa
