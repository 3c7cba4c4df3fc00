
/-
  StreamComes: the plain law: two sides and what is under way between them, whatever the weather.
-/
import Derived.Test.YtdfkednggjelcaaMBase
namespace Go.Proofs.Ytdfkednggjelcaa
set_option linter.unusedVariables false
/-- A message: records from f on, so many (d); or that so many are there. -/
structure QM where
  d : Bool
  f : Nat
  c : Nat
structure SS where
  k : Nat
  n : Nat
  t : Nat
  a : Nat
  q : List QM
def tickS (s : SS) : SS := if s.k < s.n then { s with t := s.t + 1 } else s
def cntS (N f : Nat) : Nat := min 8 (N + 1 - f)
def putS (N f : Nat) (s : SS) : SS := { s with n := max s.n (f + cntS N f - 1), t := 0, q := s.q ++ [⟨true, f, cntS N f⟩] }
def sendS (N : Nat) (s : SS) : SS := if s.n < N then putS N (s.n + 1) s else if s.k < N ∧ 4 ≤ s.t then putS N (s.k + 1) s else s
def twiceQ : List QM → List QM
  | [] => []
  | m :: r => r ++ [m, m]
def weatherS (x : Nat) (s : SS) : SS := if x = 1 then { s with q := s.q.drop 1 } else if x = 2 ∧ s.q.length < 50 then { s with q := twiceQ s.q } else s
/-- How many are there when records come. -/
def tookS (a f c : Nat) : Nat := if f ≤ a + 1 ∧ a + 2 ≤ f + c then f + c - 1 else a
def heardS (m : QM) (s : SS) : SS := if s.k < m.f ∧ m.f ≤ s.n then { s with k := m.f, t := 0 } else s
def delS (s : SS) : SS := match s.q with
  | [] => s
  | m :: r => if m.d then { s with a := tookS s.a m.f m.c, q := r ++ [⟨false, tookS s.a m.f m.c, 0⟩] } else heardS m { s with q := r }
def delN : Nat → SS → SS
  | 0, s => s
  | j + 1, s => delN j (delS s)
def stepS (N x : Nat) (s : SS) : SS := if x = 3 then weatherS x (sendS N (tickS s)) else delN 10 (weatherS x (sendS N (tickS s)))
def runS (N : Nat) (wx : Nat → Nat) : Nat → SS
  | 0 => ⟨0, 0, 0, 0, []⟩
  | i + 1 => stepS N (wx i) (runS N wx i)
/-- What holds always. -/
structure Safe (N : Nat) (s : SS) : Prop where
  ka : s.k ≤ s.a
  an : s.a ≤ s.n
  nN : s.n ≤ N
  q1 : ∀ m ∈ s.q, m.d = true → 1 ≤ m.f ∧ 1 ≤ m.c ∧ m.c ≤ 8 ∧ m.f + m.c ≤ s.n + 1
  q2 : ∀ m ∈ s.q, m.d = false → m.f ≤ s.a
theorem delS_nil {s : SS} (h : s.q = []) : delS s = s := by unfold delS; rw [h]
theorem delN_nil {s : SS} (h : s.q = []) : ∀ j, delN j s = s
  | 0 => rfl
  | j + 1 => by rw [delN, delS_nil h, delN_nil h j]
section
variable {N : Nat} {s : SS}
theorem Safe.tick (h : Safe N s) : Safe N (tickS s) := by
  unfold tickS
  split
  · exact ⟨h.ka, h.an, h.nN, h.q1, h.q2⟩
  · exact h
theorem cntS_spec {N f : Nat} (h1 : 1 ≤ f) (h2 : f ≤ N) : 1 ≤ cntS N f ∧ cntS N f ≤ 8 ∧ f + cntS N f ≤ N + 1 := by unfold cntS; omega
theorem Safe.put (h : Safe N s) {f : Nat} (h1 : 1 ≤ f) (h2 : f ≤ N) : Safe N (putS N f s) := by
  obtain ⟨c1, c2, c3⟩ := cntS_spec h1 h2
  have h3 := h.nN
  have h4 := h.an
  refine ⟨h.ka, by show s.a ≤ max _ _; omega, by show max _ _ ≤ N; omega, fun m hm hd => ?_, fun m hm hd => ?_⟩
  · rcases List.mem_append.1 hm with hm | hm
    · obtain ⟨a1, a2, a3, a4⟩ := h.q1 m hm hd
      refine ⟨a1, a2, a3, ?_⟩
      show _ ≤ max _ _ + 1
      omega
    · obtain rfl := List.mem_singleton.1 hm
      refine ⟨h1, c1, c2, ?_⟩
      show f + cntS N f ≤ max _ _ + 1
      omega
  · rcases List.mem_append.1 hm with hm | hm
    · exact h.q2 m hm hd
    · obtain rfl := List.mem_singleton.1 hm; cases hd
theorem Safe.send (h : Safe N s) : Safe N (sendS N s) := by
  unfold sendS
  split
  · exact h.put (by omega) (by omega)
  · split
    · exact h.put (by omega) (by omega)
    · exact h
theorem Safe.sub (h : Safe N s) {q : List QM} (hq : ∀ m ∈ q, m ∈ s.q) : Safe N { s with q := q } := ⟨h.ka, h.an, h.nN, fun m hm => h.q1 m (hq m hm), fun m hm => h.q2 m (hq m hm)⟩
theorem twiceQ_mem : ∀ {q : List QM} {m : QM}, m ∈ twiceQ q → m ∈ q
  | [], m, h => h
  | a :: r, m, h => by
    rcases List.mem_append.1 h with h | h
    · exact List.mem_cons_of_mem _ h
    · simp at h
      subst h
      exact List.mem_cons_self
theorem Safe.weather (h : Safe N s) (x : Nat) : Safe N (weatherS x s) := by
  unfold weatherS
  split
  · exact h.sub (fun m hm => List.mem_of_mem_drop hm)
  · split
    · exact h.sub (fun m hm => twiceQ_mem hm)
    · exact h
theorem tookS_le {a f c n : Nat} (h1 : a ≤ n) (h2 : f + c ≤ n + 1) : a ≤ tookS a f c ∧ tookS a f c ≤ n := by unfold tookS; split <;> omega
theorem Safe.del (h : Safe N s) : Safe N (delS s) := by
  unfold delS
  split
  · exact h
  · rename_i m r hq
    have hr : Safe N { s with q := r } := h.sub (fun x hx => by rw [hq]; exact List.mem_cons_of_mem _ hx)
    have hm : m ∈ s.q := by rw [hq]; exact List.mem_cons_self
    cases hd : m.d
    · have hf := h.q2 m hm hd
      rw [if_neg (by decide)]
      unfold heardS
      split
      · exact ⟨hf, hr.an, hr.nN, hr.q1, hr.q2⟩
      · exact hr
    · rw [if_pos rfl]
      obtain ⟨a1, a2, a3, a4⟩ := h.q1 m hm hd
      obtain ⟨b1, b2⟩ := tookS_le (f := m.f) (c := m.c) h.an a4
      refine ⟨Nat.le_trans h.ka b1, b2, h.nN, fun x hx hd => ?_, fun x hx hd => ?_⟩
      · rcases List.mem_append.1 hx with hx | hx
        · exact hr.q1 x hx hd
        · obtain rfl := List.mem_singleton.1 hx; cases hd
      · rcases List.mem_append.1 hx with hx | hx
        · exact Nat.le_trans (hr.q2 x hx hd) b1
        · obtain rfl := List.mem_singleton.1 hx; exact Nat.le_refl _
theorem Safe.delN : ∀ (j : Nat) {s : SS}, Safe N s → Safe N (delN j s)
  | 0, _, h => h
  | j + 1, _, h => Safe.delN j h.del
theorem Safe.step (h : Safe N s) (x : Nat) : Safe N (stepS N x s) := by
  unfold stepS
  split
  · exact (h.tick.send).weather x
  · exact ((h.tick.send).weather x).delN 10
end
theorem Safe.run (N : Nat) (wx : Nat → Nat) : ∀ i, Safe N (runS N wx i)
  | 0 => ⟨Nat.le_refl _, Nat.le_refl _, Nat.zero_le _, (fun m hm => by cases hm), (fun m hm => by cases hm)⟩
  | i + 1 => (Safe.run N wx i).step _
/-- How often messages are still to be taken out. -/
def wt : List QM → Nat
  | [] => 0
  | m :: r => (if m.d then 2 else 1) + wt r
theorem wt_app : ∀ (a b : List QM), wt (a ++ b) = wt a + wt b
  | [], b => by simp [wt]
  | m :: r, b => by rw [List.cons_append, wt, wt, wt_app r b]; omega
theorem wt_len : ∀ (a : List QM), wt a ≤ 2 * a.length
  | [] => Nat.le_refl _
  | m :: r => by
    have := wt_len r
    rw [wt, List.length_cons]
    split <;> omega
theorem wt_zero : ∀ {a : List QM}, wt a = 0 → a = []
  | [], _ => rfl
  | m :: r, h => by
    rw [wt] at h
    split at h <;> omega
theorem wt_drop (a : List QM) : wt (a.drop 1) ≤ wt a := by
  cases a with
  | nil => exact Nat.le_refl _
  | cons m r => show wt r ≤ _; rw [wt]; omega
theorem wt_send (N : Nat) (s : SS) : wt (sendS N s).q ≤ wt s.q + 2 := by
  unfold sendS
  split
  · show wt (s.q ++ _) ≤ _; rw [wt_app]; simp [wt]
  · split
    · show wt (s.q ++ _) ≤ _; rw [wt_app]; simp [wt]
    · omega
theorem wt_tick (s : SS) : (tickS s).q = s.q := by unfold tickS; split <;> rfl
theorem wt_del (s : SS) : wt (delS s).q = wt s.q - 1 := by
  unfold delS
  split
  · rename_i h; rw [h]; rfl
  · rename_i m r h
    rw [h, wt]
    cases m.d
    · rw [if_neg (by decide)]
      have : (heardS m { s with q := r }).q = r := by unfold heardS; split <;> rfl
      rw [this, if_neg (by decide)]
      omega
    · rw [if_pos rfl, if_pos rfl]
      show wt (r ++ [_]) = _
      rw [wt_app]; simp [wt]; omega
theorem wt_delN : ∀ (j : Nat) (s : SS), wt (delN j s).q = wt s.q - j
  | 0, s => rfl
  | j + 1, s => by rw [delN, wt_delN j, wt_del]; omega
theorem wt_step (N x : Nat) (s : SS) : wt (stepS N x s).q ≤ max (wt s.q + 2) 100 := by
  have h1 := wt_send N (tickS s)
  rw [wt_tick] at h1
  have h2 : wt (weatherS x (sendS N (tickS s))).q ≤ max (wt s.q + 2) 100 := by
    generalize sendS N (tickS s) = r at *
    unfold weatherS
    split
    · have := wt_drop r.q
      show wt (r.q.drop 1) ≤ _
      omega
    · split
      · rename_i h3
        obtain ⟨_, h3⟩ := h3
        show wt (twiceQ r.q) ≤ _
        cases hq : r.q with
        | nil => show wt [] ≤ _; simp [wt]
        | cons m t =>
          rw [hq] at h3
          have h4 := wt_len t
          simp only [List.length_cons] at h3
          show wt (t ++ [m, m]) ≤ _
          rw [wt_app]
          have h5 : wt [m, m] ≤ 4 := by simp only [wt]; split <;> omega
          omega
      · show wt r.q ≤ _; omega
  unfold stepS
  split
  · exact h2
  · rw [wt_delN]; omega
theorem wt_calm (N : Nat) (s : SS) : wt (stepS N 0 s).q ≤ wt s.q - 8 := by
  have h1 := wt_send N (tickS s)
  rw [wt_tick] at h1
  have h2 : weatherS 0 (sendS N (tickS s)) = sendS N (tickS s) := by unfold weatherS; rw [if_neg (by decide), if_neg (fun h => by cases h.1)]
  unfold stepS
  rw [if_neg (by decide), wt_delN, h2]
  omega
theorem wt_run (N : Nat) (wx : Nat → Nat) : ∀ i, wt (runS N wx i).q ≤ 100 + 2 * i
  | 0 => by show wt [] ≤ _; simp [wt]
  | i + 1 => by
    have := wt_step N (wx i) (runS N wx i)
    have h2 := wt_run N wx i
    show wt (stepS N (wx i) (runS N wx i)).q ≤ _
    omega
theorem wt_run_calm (N : Nat) (wx : Nat → Nat) (L : Nat) (h0 : ∀ i, L ≤ i → wx i = 0) : ∀ j, wt (runS N wx (L + j)).q ≤ (100 + 2 * L) - 8 * j
  | 0 => by have := wt_run N wx L; simpa using this
  | j + 1 => by
    have h1 := wt_run_calm N wx L h0 j
    have h2 := wt_calm N (runS N wx (L + j))
    show wt (stepS N (wx (L + j)) (runS N wx (L + j))).q ≤ _
    rw [h0 _ (by omega)]
    omega
/-- How many steps at most until all is there, where nothing is under way. -/
def leftS (N : Nat) (s : SS) : Nat := 5 * ((N - s.n + 7) / 8) + 5 * ((N - s.k + 7) / 8) + (4 - s.t)
theorem calm_send {N : Nat} {s : SS} (h : Safe N s) (hq : s.q = []) {f : Nat} (h1 : 1 ≤ f) (h2 : f ≤ N) : delN 10 (putS N f s) = (if s.k < tookS s.a f (cntS N f) then ⟨tookS s.a f (cntS N f), max s.n (f + cntS N f - 1), 0, tookS s.a f (cntS N f), []⟩ else ⟨s.k, max s.n (f + cntS N f - 1), 0, tookS s.a f (cntS N f), []⟩) := by
  obtain ⟨c1, c2, c3⟩ := cntS_spec h1 h2
  have hp := (h.put h1 h2).del
  have e1 : delS (putS N f s) = ⟨s.k, max s.n (f + cntS N f - 1), 0, tookS s.a f (cntS N f), [⟨false, tookS s.a f (cntS N f), 0⟩]⟩ := by
    unfold delS putS
    rw [hq]
    rfl
  have hle : tookS s.a f (cntS N f) ≤ max s.n (f + cntS N f - 1) := by rw [e1] at hp; exact hp.an
  have e2 : delS (delS (putS N f s)) = (if s.k < tookS s.a f (cntS N f) then ⟨tookS s.a f (cntS N f), max s.n (f + cntS N f - 1), 0, tookS s.a f (cntS N f), []⟩ else ⟨s.k, max s.n (f + cntS N f - 1), 0, tookS s.a f (cntS N f), []⟩) := by
    rw [e1]
    show heardS _ _ = _
    unfold heardS
    simp only
    by_cases hlt : s.k < tookS s.a f (cntS N f)
    · rw [if_pos ⟨hlt, hle⟩, if_pos hlt]
    · rw [if_neg (fun h => hlt h.1), if_neg hlt]
  have e3 : delN 10 (putS N f s) = delN 8 (delS (delS (putS N f s))) := rfl
  rw [e3, e2]
  split
  · exact delN_nil rfl 8
  · exact delN_nil rfl 8
theorem calm_step {N : Nat} {s : SS} (h : Safe N s) (hq : s.q = []) : stepS N 0 s = delN 10 (sendS N (tickS s)) := by
  have h2 : weatherS 0 (sendS N (tickS s)) = sendS N (tickS s) := by unfold weatherS; rw [if_neg (by decide), if_neg (fun h => by cases h.1)]
  unfold stepS
  rw [if_neg (by decide), h2]
theorem div8 {x y : Nat} (h : x + min 8 y ≤ y) : (x + 7) / 8 + (if y = 0 then 0 else 1) ≤ (y + 7) / 8 := by split <;> omega
/-- A calm step with nothing under way: nothing is under way behind it, and all is there, or there is less to do. -/
theorem left_step {N : Nat} {s : SS} (h : Safe N s) (hq : s.q = []) : s.k = N ∨ leftS N (stepS N 0 s) + 1 ≤ leftS N s := by
  by_cases hk : s.k = N
  · exact .inl hk
  right
  have h1 := h.ka
  have h2 := h.an
  have h3 := h.nN
  have htq : (tickS s).q = [] := by rw [wt_tick]; exact hq
  have htS := h.tick
  have ht : (tickS s).k = s.k ∧ (tickS s).n = s.n ∧ (tickS s).a = s.a := by unfold tickS; split <;> exact ⟨rfl, rfl, rfl⟩
  rw [calm_step h hq]
  obtain ⟨t1, t2, t3⟩ := ht
  by_cases hn : s.n < N
  · have e : sendS N (tickS s) = putS N (s.n + 1) (tickS s) := by unfold sendS; rw [t2, if_pos hn]
    rw [e, calm_send htS htq (by omega) (by omega), t1, t2, t3]
    have hc : cntS N (s.n + 1) = min 8 (N - s.n) := by unfold cntS; omega
    rw [hc]
    generalize hT : tookS s.a (s.n + 1) (min 8 (N - s.n)) = T
    have hm : max s.n (s.n + 1 + min 8 (N - s.n) - 1) = s.n + min 8 (N - s.n) := by omega
    rw [hm]
    split <;> (unfold leftS; simp only; omega)
  · have hnN : s.n = N := by omega
    have hkn : s.k < s.n := by omega
    have htt : (tickS s).t = s.t + 1 := by unfold tickS; rw [if_pos hkn]
    by_cases h4 : 4 ≤ s.t + 1
    · have e : sendS N (tickS s) = putS N (s.k + 1) (tickS s) := by
        unfold sendS; rw [t2, if_neg hn, t1, htt, if_pos ⟨by omega, h4⟩]
      rw [e, calm_send htS htq (by omega) (by omega), t1, t2, t3]
      have hc : cntS N (s.k + 1) = min 8 (N - s.k) := by unfold cntS; omega
      rw [hc]
      have hT : s.k + min 8 (N - s.k) ≤ tookS s.a (s.k + 1) (min 8 (N - s.k)) ∧ tookS s.a (s.k + 1) (min 8 (N - s.k)) ≤ N := by unfold tookS; split <;> omega
      generalize tookS s.a (s.k + 1) (min 8 (N - s.k)) = T at *
      rw [if_pos (by omega)]
      unfold leftS
      simp only
      omega
    · have e : sendS N (tickS s) = tickS s := by
        unfold sendS; rw [t2, if_neg hn, t1, htt, if_neg (fun h => h4 h.2)]
      rw [e, delN_nil htq]
      unfold leftS
      rw [t1, t2, htt]
      omega
theorem left_zero {N : Nat} {s : SS} (h : Safe N s) (h0 : leftS N s = 0) : s.k = N := by
  have h1 := h.ka
  have h2 := h.an
  have h3 := h.nN
  unfold leftS at h0
  omega
theorem done_stays {N : Nat} {s : SS} (h : Safe N s) (hq : s.q = []) (hk : s.k = N) : stepS N 0 s = s := by
  have h1 := h.ka
  have h2 := h.an
  have h3 := h.nN
  have e1 : tickS s = s := by unfold tickS; rw [if_neg (by omega)]
  have e2 : sendS N s = s := by unfold sendS; rw [if_neg (by omega), if_neg (by omega)]
  rw [calm_step h hq, e1, e2, delN_nil hq]
/-- In the end all records are there, and it is known. -/
theorem comes_all (N : Nat) (hN : N ≤ 60) (wx : Nat → Nat) (L : Nat) (hL : L ≤ 200) (h0 : ∀ i, L ≤ i → wx i = 0) : (runS N wx (L + 150)).k = N ∧ (runS N wx (L + 150)).a = N := by
  have key : ∀ j, (runS N wx (L + 63 + j)).q = [] ∧ ((runS N wx (L + 63 + j)).k = N ∨ leftS N (runS N wx (L + 63 + j)) ≤ 84 - j) := by
    intro j
    have hq : ∀ j, (runS N wx (L + 63 + j)).q = [] := fun j => wt_zero (by
      have := wt_run_calm N wx L h0 (63 + j)
      rw [← Nat.add_assoc] at this
      omega)
    refine ⟨hq j, ?_⟩
    induction j with
    | zero =>
      right
      have hs := Safe.run N wx (L + 63)
      unfold leftS
      show 5 * ((N - (runS N wx (L + 63)).n + 7) / 8) + 5 * ((N - (runS N wx (L + 63)).k + 7) / 8) + (4 - (runS N wx (L + 63)).t) ≤ _
      omega
    | succ j ih =>
      have hs := Safe.run N wx (L + 63 + j)
      have e : runS N wx (L + 63 + (j + 1)) = stepS N 0 (runS N wx (L + 63 + j)) := by
        have e0 : L + 63 + (j + 1) = (L + 63 + j) + 1 := rfl
        rw [e0, runS, h0 _ (by omega)]
      rw [e]
      rcases left_step hs (hq j) with hk | hl
      · rw [done_stays hs (hq j) hk]; exact .inl hk
      · rcases ih with hk | ih
        · rw [done_stays hs (hq j) hk]; exact .inl hk
        · rcases Nat.eq_zero_or_pos (leftS N (runS N wx (L + 63 + j))) with hz | hz
          · rw [done_stays hs (hq j) (left_zero hs hz)]; exact .inl (left_zero hs hz)
          · right; omega
  have hs := Safe.run N wx (L + 150)
  have e : L + 150 = L + 63 + 87 := by omega
  have hk : (runS N wx (L + 150)).k = N := by
    rw [e]
    rcases (key 87).2 with h | h
    · exact h
    · exact left_zero (Safe.run N wx _) (by omega)
  have h1 := hs.ka
  have h2 := hs.an
  have h3 := hs.nN
  exact ⟨hk, by omega⟩
theorem t_del (s : SS) : (delS s).t ≤ s.t := by
  unfold delS
  split
  · exact Nat.le_refl _
  · split
    · exact Nat.le_refl _
    · unfold heardS
      split
      · exact Nat.zero_le _
      · exact Nat.le_refl _
theorem t_delN : ∀ (j : Nat) (s : SS), (delN j s).t ≤ s.t
  | 0, s => Nat.le_refl _
  | j + 1, s => Nat.le_trans (t_delN j _) (t_del s)
theorem t_front (N x : Nat) (s : SS) : (weatherS x (sendS N (tickS s))).t ≤ s.t + 1 := by
  have h1 : (tickS s).t ≤ s.t + 1 := by unfold tickS; split <;> simp
  have h2 : (sendS N (tickS s)).t ≤ s.t + 1 := by
    unfold sendS
    split
    · exact Nat.zero_le _
    · split
      · exact Nat.zero_le _
      · exact h1
  have h3 : (weatherS x (sendS N (tickS s))).t = (sendS N (tickS s)).t := by
    unfold weatherS
    split
    · rfl
    · split <;> rfl
  rw [h3]; exact h2
theorem t_run (N : Nat) (wx : Nat → Nat) : ∀ i, (runS N wx i).t ≤ i
  | 0 => Nat.le_refl _
  | i + 1 => by
    have h1 := t_run N wx i
    have h2 := t_front N (wx i) (runS N wx i)
    show (stepS N (wx i) (runS N wx i)).t ≤ _
    unfold stepS
    split
    · omega
    · have := t_delN 10 (weatherS (wx i) (sendS N (tickS (runS N wx i)))); omega
theorem len_send (N : Nat) (s : SS) : (sendS N s).q.length ≤ s.q.length + 1 := by
  unfold sendS
  split
  · show (s.q ++ _).length ≤ _; simp
  · split
    · show (s.q ++ _).length ≤ _; simp
    · omega
theorem len_weather (x : Nat) (s : SS) : (weatherS x s).q.length ≤ s.q.length + 1 := by
  unfold weatherS
  split
  · show (s.q.drop 1).length ≤ _; rw [List.length_drop]; omega
  · split
    · show (twiceQ s.q).length ≤ _
      cases s.q with
      | nil => simp [twiceQ]
      | cons m r => simp [twiceQ]
    · omega
theorem len_del (s : SS) : (delS s).q.length ≤ s.q.length := by
  unfold delS
  split
  · exact Nat.le_refl _
  · rename_i m r h
    rw [h]
    split
    · show (r ++ _).length ≤ _; simp
    · have : (heardS m { s with q := r }).q = r := by unfold heardS; split <;> rfl
      rw [this]; simp
theorem len_delN : ∀ (j : Nat) (s : SS), (delN j s).q.length ≤ s.q.length
  | 0, s => Nat.le_refl _
  | j + 1, s => Nat.le_trans (len_delN j _) (len_del s)
theorem len_run (N : Nat) (wx : Nat → Nat) : ∀ i, (runS N wx i).q.length ≤ 2 * i
  | 0 => Nat.le_refl _
  | i + 1 => by
    have h1 := len_run N wx i
    have h2 := len_send N (tickS (runS N wx i))
    rw [wt_tick] at h2
    have h3 := len_weather (wx i) (sendS N (tickS (runS N wx i)))
    show (stepS N (wx i) (runS N wx i)).q.length ≤ _
    unfold stepS
    split
    · omega
    · have := len_delN 10 (weatherS (wx i) (sendS N (tickS (runS N wx i)))); omega
end Go.Proofs.Ytdfkednggjelcaa
