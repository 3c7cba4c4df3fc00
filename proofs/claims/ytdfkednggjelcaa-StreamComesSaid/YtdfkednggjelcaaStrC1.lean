
/-
  StreamComes: what lies in memory as it is in the plain law.
-/
import Derived.Test.YtdfkednggjelcaaStrC0
import Derived.Test.YtdfkednggjelcaaStrQ
import Derived.Test.YtdfkednggjelcaaStrAg
import Derived.Test.YtdfkednggjelcaaStrOn
namespace Go.Proofs.Ytdfkednggjelcaa
open Go.RowKit
set_option linter.unusedVariables false
def SS.o (s : SS) : OSt := ⟨0, 1, s.k, s.n, s.t⟩
def SS.i (s : SS) : ISt := ⟨1, 0, s.a⟩
def QM.w (m : QM) : Wd := if m.d then ⟨1, 0, m.f, 0, 0, 0, 0, someL 0 m.f m.c⟩ else ⟨2, 0, m.f, 0, 0, 0, 0, []⟩
def QM.p (m : QM) : Int × Int × List UInt8 := if m.d then (0, 1, encF (bodyW m.w)) else (1, 0, encF (bodyW m.w))
structure QM.Ok (m : QM) : Prop where
  f1 : m.d = true → 1 ≤ m.f
  c1 : m.d = true → 1 ≤ m.c
  c8 : m.d = true → m.c ≤ 8
  f : m.f ≤ 1000
theorem QM.Ok.isW {m : QM} (h : m.Ok) : isW m.w = true := by
  unfold QM.w
  cases hd : m.d
  · rw [if_neg (by decide)]
    have := h.f
    exact isW_ack2 (by omega) (by omega) (by omega) (by omega)
  · rw [if_pos rfl]
    have h1 := h.f1 hd
    have h2 := h.c1 hd
    have h3 := h.c8 hd
    have h4 := h.f
    refine isW_send (a := 0) (f := (m.f : Int)) (by omega) (by omega) (okL_some (by omega) (by omega) (by omega) (by omega)) (by rw [someL_len]; omega) (by rw [someL_len]; omega) (fun i hi => ?_)
    rw [someL_get hi]; rfl
theorem QM.Ok.dec {m : QM} (h : m.Ok) : decW (encF (bodyW m.w)) = (m.w, 0) := decW_enc h.isW
theorem QM.Ok.len {m : QM} (h : m.Ok) : (encF (bodyW m.w)).length ≤ 1000000 := by
  have h1 := encF_len (bodyW m.w)
  have h2 := bodyW_len h.isW
  omega
theorem Safe.ok {N : Nat} {s : SS} (h : Safe N s) (hN : N ≤ 60) {m : QM} (hm : m ∈ s.q) : m.Ok := by
  have h1 := h.an
  have h2 := h.nN
  cases hd : m.d
  · have := h.q2 m hm hd
    exact ⟨fun h => by rw [hd] at h; (first | cases h | contradiction), fun h => by rw [hd] at h; (first | cases h | contradiction), fun h => by rw [hd] at h; (first | cases h | contradiction), by omega⟩
  · obtain ⟨a1, a2, a3, a4⟩ := h.q1 m hm hd
    exact ⟨fun _ => a1, fun _ => a2, fun _ => a3, by omega⟩
theorem someL_cons (o f : Int) (n : Nat) : someL o f (n + 1) = recO o f :: someL o (f + 1) n := by
  unfold someL
  rw [List.range_succ_eq_map, List.map_cons, List.map_map]
  congr 1
  · simp
  · refine List.map_congr_left (fun i _ => ?_)
    simp only [Function.comp]
    congr 1
    omega
theorem take_next (a : Nat) : ∀ (c j : Nat), a + 1 + j + c ≤ 1000000 → takeN 0 (a : Int) j (someL 0 ((a : Int) + 1 + j) c) = someL 0 ((a : Int) + 1 + j) c
  | 0, j, _ => rfl
  | c + 1, j, h => by
    rw [someL_cons, takeN, if_pos ⟨isR_recO (by omega) (by omega) (by omega) (by omega), rfl, rfl⟩]
    congr 1
    have e : (a : Int) + 1 + j + 1 = (a : Int) + 1 + ((j + 1 : Nat) : Int) := by omega
    rw [e]
    exact take_next a c (j + 1) (by omega)
/-- Which records of a message are taken. -/
theorem take_come (a : Nat) : ∀ (c f : Nat), 1 ≤ f → f + c ≤ 1000000 → a ≤ 1000000 → takeN 0 (a : Int) 0 (someL 0 (f : Int) c) = someL 0 ((a : Int) + 1) (tookS a f c - a)
  | 0, f, _, _, _ => by
    have e : tookS a f 0 - a = 0 := by unfold tookS; split <;> omega
    rw [e]; rfl
  | c + 1, f, h1, h2, h3 => by
    by_cases hf : f = a + 1
    · have e : tookS a f (c + 1) - a = c + 1 := by unfold tookS; rw [if_pos (by omega)]; omega
      rw [e]
      have e2 : (f : Int) = (a : Int) + 1 + ((0 : Nat) : Int) := by omega
      have h4 := take_next a (c + 1) 0 (by omega)
      rw [e2, h4]
      congr 1
    · have h5 := take_come a c (f + 1) (by omega) (by omega) h3
      have e : tookS a f (c + 1) - a = tookS a (f + 1) c - a := by unfold tookS; split <;> split <;> omega
      rw [e, someL_cons, takeN, if_neg (fun h => hf (by
        have h6 := h.2.2
        have h7 : (f : Int) = (a : Int) + 1 + ((0 : Nat) : Int) := h6
        omega)), if_neg (by omega)]
      exact h5
theorem tick_o (s : SS) : tickO s.o = (tickS s).o := by
  unfold tickO tickS SS.o
  by_cases h : s.k < s.n
  · rw [if_pos h, if_pos (by simp only; omega)]; simp
  · rw [if_neg h, if_neg (by simp only; omega)]
theorem tick_i (s : SS) : (tickS s).i = s.i ∧ (tickS s).q = s.q ∧ (tickS s).a = s.a := by unfold tickS SS.i; split <;> exact ⟨rfl, rfl, rfl⟩
theorem need_o (N : Nat) (s : SS) : needO s.o N = (if s.n < N then ((s.n : Int) + 1, true) else if s.k < N ∧ 4 ≤ s.t then ((s.k : Int) + 1, true) else (0, false)) := by
  unfold needO SS.o
  simp only
  by_cases h : s.n < N
  · rw [if_pos h, if_pos (by omega)]
  · rw [if_neg h, if_neg (by omega)]
    by_cases h2 : s.k < N ∧ 4 ≤ s.t
    · rw [if_pos h2, if_pos (by omega)]
    · rw [if_neg h2, if_neg (by omega)]
theorem send_o {N f : Nat} {s : SS} (hN : N ≤ 60) (h1 : s.k < f) (h2 : f ≤ s.n + 1) (h3 : f ≤ N) : sendO s.o (someL 0 (f : Int) (cntS N f)) = (encF (bodyW (QM.w ⟨true, f, cntS N f⟩)), 0, (putS N f s).o) := by
  obtain ⟨c1, c2, c3⟩ := cntS_spec (show 1 ≤ f by omega) h3
  have h := sendO_yes (o := s.o) (l := someL 0 (f : Int) (cntS N f)) (f := (f : Int)) (okL_some (by show (0 : Int) ≤ 0; omega) (by show (0 : Int) < 5; omega) (by omega) (by omega)) (by rw [someL_len]; omega) (by rw [someL_len]; omega) (fun i hi => by rw [someL_get hi]; rfl) (by show ¬ (f : Int) ≤ (s.k : Int); omega) (by show ¬ (s.n : Int) + 1 < (f : Int); omega)
  rw [h]
  unfold QM.w putS SS.o
  rw [if_pos rfl, someL_len]
  simp only
  congr 3
  omega
theorem ack_o (m : QM) (s : SS) : (ackO s.o m.f).2 = (heardS m s).o := by
  unfold ackO heardS SS.o
  simp only
  by_cases h : s.k < m.f ∧ m.f ≤ s.n
  · rw [if_pos h, if_neg (by omega)]; rfl
  · rw [if_neg h, if_pos (by omega)]
theorem heard_same (m : QM) (s : SS) : (heardS m s).a = s.a ∧ (heardS m s).q = s.q := by unfold heardS; split <;> exact ⟨rfl, rfl⟩
/-- What lies in memory. -/
structure MtX (w0 w : World) (go gi : Nat) (A : Option Addr) (c : Nat) (ms : List MgV) (s : SS) : Prop where
  p : ms.map MgV.p = s.q.map QM.p
  o : At w go 95 s.o.cells
  i : At w gi 84 s.i.cells
  qu : Qu w w0.heap.size 63 3 A ms.length c (cMg ms)
  dat : ∀ x ∈ ms, Rd w 1 x.A x.d.length (cB x.d) ∧ x.d.length ≤ x.cp ∧ (0 < x.d.length → ∀ k ∈ blk x.A, k ≠ go ∧ k ≠ gi ∧ (0 < c → k ∉ blk A))
  chg : Chg [] w0 w
  ga : 0 < c → go ∉ blk A ∧ gi ∉ blk A
  go0 : w0.heap.size ≤ go
  gi0 : w0.heap.size ≤ gi
def Mt (w0 w : World) (go gi : Nat) (A : Option Addr) (c : Nat) (s : SS) : Prop := ∃ ms, MtX w0 w go gi A c ms s
section
variable {w0 w w' : World} {go gi : Nat} {A A' : Option Addr} {c c' : Nat} {ms : List MgV} {s s' : SS}
theorem MtX.len (h : MtX w0 w go gi A c ms s) : ms.length = s.q.length := by have := congrArg List.length h.p; simpa using this
theorem MtX.ne (h : MtX w0 w go gi A c ms s) : go ≠ gi := At.ne h.o h.i (by decide)
theorem MtX.quiet (h : MtX w0 w go gi A c ms s) (hc : Chg [] w w') : MtX w0 w' go gi A c ms s :=
  ⟨h.p, h.o.keep hc (by simp), h.i.keep hc (by simp), h.qu.keep hc (by simp), fun x hx => ⟨(h.dat x hx).1.keep0 hc, (h.dat x hx).2⟩, h.chg.trans hc (by simp), h.ga, h.go0, h.gi0⟩
theorem Rd.pos {w : World} {A : Option Addr} {n : Nat} {xs : List Value} {size : Nat} (h : Rd w size A n xs) (hn : 0 < n) : ∀ k ∈ blk A, k < w.heap.size := by
  obtain ⟨ad, rfl, hb, _⟩ := h.at_ hn
  intro k hk
  obtain rfl : k = ad.block := by simpa [blk] using hk
  exact hb
/-- The side that sends has turned. -/
theorem MtX.setO (h : MtX w0 w go gi A c ms s) (hc : Chg [go] w w') (ho : At w' go 95 s'.o.cells) (ha : s'.a = s.a) (hq : s'.q = s.q) : MtX w0 w' go gi A c ms s' := by
  have hi : s'.i = s.i := by unfold SS.i; rw [ha]
  refine ⟨by rw [hq]; exact h.p, ho, by rw [hi]; exact h.i.keep hc (by simpa using h.ne.symm), ?_, fun x hx => ⟨(h.dat x hx).1.keep hc (fun hn k hk hm => ((h.dat x hx).2.2 hn k hk).1 (by simpa using hm)), (h.dat x hx).2⟩, h.chg.trans hc (fun x hx => .inr (by simp at hx; subst hx; exact h.go0)), h.ga, h.go0, h.gi0⟩
  rcases Nat.eq_zero_or_pos c with h0 | h0
  · rcases h.qu with hq2 | ⟨g, k, pre, e1, e2, e3, e4⟩
    · exact .inl hq2
    · have hcap := own_cap e4
      have hm0 : ms.length = 0 := by omega
      exact .inl ⟨hm0, h0, List.eq_nil_of_length_eq_zero (by rw [e3, hm0, Nat.zero_mul])⟩
  · exact h.qu.keep hc (fun k hk hm => (h.ga h0).1 (by simp at hm; subst hm; exact hk))
theorem MtX.setI (h : MtX w0 w go gi A c ms s) (hc : Chg [gi] w w') (hi : At w' gi 84 s'.i.cells) (ho : s'.o = s.o) (hq : s'.q = s.q) : MtX w0 w' go gi A c ms s' := by
  refine ⟨by rw [hq]; exact h.p, by rw [ho]; exact h.o.keep hc (by simpa using h.ne), hi, ?_, fun x hx => ⟨(h.dat x hx).1.keep hc (fun hn k hk hm => ((h.dat x hx).2.2 hn k hk).2.1 (by simpa using hm)), (h.dat x hx).2⟩, h.chg.trans hc (fun x hx => .inr (by simp at hx; subst hx; exact h.gi0)), h.ga, h.go0, h.gi0⟩
  rcases Nat.eq_zero_or_pos c with h0 | h0
  · rcases h.qu with hq2 | ⟨g, k, pre, e1, e2, e3, e4⟩
    · exact .inl hq2
    · have hcap := own_cap e4
      have hm0 : ms.length = 0 := by omega
      exact .inl ⟨hm0, h0, List.eq_nil_of_length_eq_zero (by rw [e3, hm0, Nat.zero_mul])⟩
  · exact h.qu.keep hc (fun k hk hm => (h.ga h0).2 (by simp at hm; subst hm; exact hk))
/-- Messages come to the end. -/
theorem MtX.push (h : MtX w0 w go gi A c ms s) {xs : List MgV} {qs : List QM} (hp : xs.map MgV.p = qs.map QM.p) (hx : ∀ x ∈ xs, Rd w 1 x.A x.d.length (cB x.d) ∧ x.d.length ≤ x.cp ∧ (0 < x.d.length → ∀ k ∈ blk x.A, k ≠ go ∧ k ≠ gi ∧ (0 < c → k ∉ blk A)))
    (hq : Qu w' w0.heap.size 63 3 A' (ms.length + xs.length) c' (cMg ms ++ cMg xs)) (hc : Chg (if c = 0 then [] else blk A) w w') (hA : ∀ j ∈ blk A', (j ∈ blk A ∧ 0 < c) ∨ w.heap.size ≤ j) :
    MtX w0 w' go gi A' c' (ms ++ xs) { s with q := s.q ++ qs } := by
  have hS : ∀ k, k ∈ (if c = 0 then [] else blk A) → k ∈ blk A ∧ 0 < c := fun k hk => by
    split at hk
    · cases hk
    · exact ⟨hk, by omega⟩
  have key : ∀ x : MgV, Rd w 1 x.A x.d.length (cB x.d) ∧ x.d.length ≤ x.cp ∧ (0 < x.d.length → ∀ k ∈ blk x.A, k ≠ go ∧ k ≠ gi ∧ (0 < c → k ∉ blk A)) → Rd w' 1 x.A x.d.length (cB x.d) ∧ x.d.length ≤ x.cp ∧ (0 < x.d.length → ∀ k ∈ blk x.A, k ≠ go ∧ k ≠ gi ∧ (0 < c' → k ∉ blk A')) := fun x hd => by
    refine ⟨hd.1.keep hc (fun hn k hk hm => (hd.2.2 hn k hk).2.2 (hS k hm).2 (hS k hm).1), hd.2.1, fun hn k hk => ⟨(hd.2.2 hn k hk).1, (hd.2.2 hn k hk).2.1, fun _ hm => ?_⟩⟩
    rcases hA k hm with h1 | h1
    · exact (hd.2.2 hn k hk).2.2 h1.2 h1.1
    · have := hd.1.pos hn k hk; omega
  refine ⟨by rw [List.map_append, List.map_append, h.p, hp], h.o.keep hc (fun hm => (h.ga (hS _ hm).2).1 (hS _ hm).1), h.i.keep hc (fun hm => (h.ga (hS _ hm).2).2 (hS _ hm).1), ?_, fun x hm => ?_, h.chg.trans hc (fun k hk => .inr (h.qu.lt (hS k hk).2 k (hS k hk).1).1), fun _ => ⟨fun hm => ?_, fun hm => ?_⟩, h.go0, h.gi0⟩
  · rw [List.length_append]
    have e : cMg (ms ++ xs) = cMg ms ++ cMg xs := by simp [cMg, List.flatMap_append]
    rw [e]; exact hq
  · rcases List.mem_append.1 hm with hm | hm
    · exact key x (h.dat x hm)
    · exact key x (hx x hm)
  · rcases hA _ hm with h1 | h1
    · exact (h.ga h1.2).1 h1.1
    · have := h.o.lt; omega
  · rcases hA _ hm with h1 | h1
    · exact (h.ga h1.2).2 h1.1
    · have := h.i.lt; omega
/-- The first message is taken out. -/
theorem MtX.pop {x : MgV} (h : MtX w0 w go gi A c (x :: ms) s) {m : QM} {r : List QM} (hq : s.q = m :: r) : x.p = m.p ∧ MtX w0 w go gi (cutA A c 1 3) (c - 1) ms { s with q := r } := by
  have hp := h.p
  rw [hq, List.map_cons, List.map_cons] at hp
  injection hp with h1 h2
  refine ⟨h1, h2, h.o, h.i, ?_, fun y hy => ?_, h.chg, fun hc => ?_, h.go0, h.gi0⟩
  · exact Qu.tail (x := x.cells) h.qu rfl (by omega)
  · obtain ⟨a1, a2, a3⟩ := h.dat y (List.mem_cons_of_mem _ hy)
    refine ⟨a1, a2, fun hn k hk => ⟨(a3 hn k hk).1, (a3 hn k hk).2.1, fun hc => ?_⟩⟩
    rw [cutA_blk]
    exact (a3 hn k hk).2.2 (by omega)
  · rw [cutA_blk]
    exact h.ga (by omega)
end
end Go.Proofs.Ytdfkednggjelcaa
