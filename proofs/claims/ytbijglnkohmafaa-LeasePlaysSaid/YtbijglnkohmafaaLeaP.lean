
/-
  LeasePlays: the code's and the reference's Leases side by side.
-/
import Derived.Test.YtbijglnkohmafaaLeaZ
namespace Go.Proofs.Ytbijglnkohmafaa
open Go.RowKit Go.Maps
set_option linter.unusedVariables false

/-- Both in memory. -/
def Bo (w0 : World) (gl b gx : Nat) (l : List LV) (n : Nat) (l2 : List LV) (n2 : Nat) (w : World) : Prop := ∃ A c, LsH w0 w gl b l n ∧ LxH w0 w gx A c l2 n2
/-- Blocks of other types stand. -/
def Still (w w' : World) : Prop := ∀ g T cs, T ≠ 60 → T ≠ 48 → T ≠ 70 → At w g T cs → At w' g T cs
theorem Still.quiet {w w' : World} (h : Chg [] w w') : Still w w' := fun g T cs _ _ _ ha => ha.keep h (by simp)
theorem Still.trans {w w' w2 : World} (h : Still w w') (k : Still w' w2) : Still w w2 := fun g T cs h1 h2 h3 ha => k g T cs h1 h2 h3 (h g T cs h1 h2 h3 ha)
theorem at_inj {w : World} {g : Nat} {T T' : TypeId} {cs cs' : Array Value} (h : At w g T cs) (h' : At w g T' cs') : T = T' := by
  unfold At at h h'
  rw [h] at h'
  injection h' with h'
  injection h' with _ h'
section
variable {w0 w w' : World} {gl b gx : Nat} {A : Option Addr} {c : Nat} {l l2 : List LV} {n n2 : Nat}
theorem map_row {e : TypeId} {size m c : Nat} {A : Option Addr} {xs : List Value} {base : Nat} (h : MapL w b l) (hr : w.ownsRow base e size (.slice A m c) m xs) : b ∉ blk A := fun hm => by
  have hk := ob A m c b hm
  rcases hr.2 with ⟨h1, _⟩ | ⟨g, cap, cur, h1, h2, h3, _⟩
  · rw [h1] at hk; cases hk
  · rw [h1] at hk
    simp [Value.ownBlock] at hk
    subst hk
    exact map_ne h (t := e) (cs := cur) h3 rfl
theorem Bo.code (h : LsH w0 w gl b l n) (hx : LxH w0 w gx A c l2 n2) {l' : List LV} {n' : Nat} (k : LsH w0 w' gl b l' n') (hc : Chg [gl, b] w w') : Bo w0 gl b gx l' n' l2 n2 w' ∧ Still w w' := by
  have h1 : gx ∉ [gl, b] := fun hm => by
    rcases List.mem_cons.1 hm with e | hm
    · rw [e] at hx; exact absurd (at_inj hx.at_ h.at_) (by decide)
    · obtain rfl := List.mem_singleton.1 hm
      exact map_ne h.map hx.at_ rfl
  have h2 : ∀ j ∈ blk A, j ∉ [gl, b] := fun j hj hm => by
    rcases List.mem_cons.1 hm with e | hm
    · exact own_at_ne hx.row h.at_ (by decide) j (ob _ _ _ _ hj) e
    · obtain rfl := List.mem_singleton.1 hm
      exact map_row h.map hx.row hj
  refine ⟨⟨A, c, k, hx.keep hc h1 h2 (fun x hm => by
    rcases List.mem_cons.1 hm with rfl | hm
    · exact h.new.1
    · obtain rfl := List.mem_singleton.1 hm; exact h.new.2)⟩, fun g T cs t1 t2 t3 ha => ha.keep hc (fun hm => ?_)⟩
  rcases List.mem_cons.1 hm with rfl | hm
  · exact t1 (at_inj ha h.at_)
  · obtain rfl := List.mem_singleton.1 hm
    exact map_ne h.map ha rfl
theorem Bo.ref (h : LsH w0 w gl b l n) (hx : LxH w0 w gx A c l2 n2) {l' : List LV} {n' c' : Nat} {A' : Option Addr} (k : LxH w0 w' gx A' c' l' n') (hc : Chg (gx :: blk A) w w') : Bo w0 gl b gx l n l' n' w' ∧ Still w w' := by
  have h1 : gl ∉ gx :: blk A := fun hm => by
    rcases List.mem_cons.1 hm with e | hm
    · rw [e] at h; exact absurd (at_inj hx.at_ h.at_) (by decide)
    · exact own_at_ne hx.row h.at_ (by decide) gl (ob _ _ _ _ hm) rfl
  have h2 : b ∉ gx :: blk A := fun hm => by
    rcases List.mem_cons.1 hm with e | hm
    · rw [e] at h; exact map_ne h.map hx.at_ rfl
    · exact map_row h.map hx.row hm
  refine ⟨⟨A', c', h.keep hc h1 h2 (fun x hm => by
    rcases List.mem_cons.1 hm with rfl | hm
    · exact hx.new
    · exact (own_in hx.row x hm).1), k⟩, fun g T cs t1 t2 t3 ha => ha.keep hc (fun hm => ?_)⟩
  rcases List.mem_cons.1 hm with rfl | hm
  · exact t2 (at_inj ha hx.at_)
  · exact own_at_ne hx.row ha (Ne.symm t3) g (ob _ _ _ _ hm) rfl
theorem Bo.quiet (h : Bo w0 gl b gx l n l2 n2 w) (hc : Chg [] w w') : Bo w0 gl b gx l n l2 n2 w' := by
  obtain ⟨A, c, h1, h2⟩ := h
  exact ⟨A, c, h1.k0 hc, h2.k0 hc⟩
theorem Bo.chg (h : Bo w0 gl b gx l n l2 n2 w) : Chg [] w0 w := by
  obtain ⟨A, c, h1, h2⟩ := h
  exact h1.chg
/-- What Open answers. -/
def opE (l : List LV) (m c u : Int) : Int := if isS m c = false ∨ u < 0 then 1 else if 64 ≤ l.length then 6 else 0
def opI (l : List LV) (n : Nat) (m c u : Int) : Int := if opE l m c u = 0 then n else 0
def opL (l : List LV) (n : Nat) (m c u : Int) : List LV := if opE l m c u = 0 then l ++ [⟨n, m, c, u⟩] else l
def opN (l : List LV) (n : Nat) (m c u : Int) : Nat := if opE l m c u = 0 then n + 1 else n
def atM (l : List LV) (k now : Int) : Int := match fndL l k with | none => 0 | some x => if x.u ≤ now then 0 else x.m
def atC (l : List LV) (k now : Int) : Int := match fndL l k with | none => 0 | some x => if x.u ≤ now then 0 else x.c
def atE (l : List LV) (k now : Int) : Int := match fndL l k with | none => 7 | some x => if x.u ≤ now then 19 else 0
def reL (l : List LV) (k now u : Int) : List LV := match fndL l k with | none => l | some x => if x.u ≤ now then l else setL l k x.m x.c (max x.u u)
def Post (w0 : World) (gl b gx : Nat) (v : Value) (l : List LV) (n : Nat) (l2 : List LV) (n2 : Nat) (w : World) (e : Ending) (w' : World) : Prop := e = .returned v ∧ Bo w0 gl b gx l n l2 n2 w' ∧ Still w w'
theorem Post.quiet {v : Value} {e : Ending} (h : Bo w0 gl b gx l n l2 n2 w) (he : e = .returned v) (hc : Chg [] w w') : Post w0 gl b gx v l n l2 n2 w e w' := ⟨he, h.quiet hc, .quiet hc⟩
theorem bOpen (h : Bo w0 gl b gx l n l2 n2 w) (m cc u : Int) (hl : l.length ≤ 64) (hn : n ≤ 1099511627776) (hf : fndL l n = none) :
    Calls Try.prog 10 #[.pointer (some ⟨gl, 0, none⟩), .agg #[.int .i64 m, .int .i64 cc], .int .i64 u] w (Post w0 gl b gx (.tuple #[.int .i64 (opI l n m cc u), .int .i64 (opE l m cc u)]) (opL l n m cc u) (opN l n m cc u) l2 n2 w) := by
  obtain ⟨A, c, h1, h2⟩ := id h
  by_cases ha : isS m cc = false ∨ u < 0
  · have he : opE l m cc u = 1 := if_pos ha
    unfold opI opL opN
    rw [he, if_neg (by decide), if_neg (by decide), if_neg (by decide)]
    refine (open_arg h1 m cc u ha).mono ?_
    rintro e w' ⟨rfl, hc⟩
    exact Post.quiet h rfl hc
  · have hs : isS m cc = true := by cases h3 : isS m cc; exact absurd (.inl h3) ha; rfl
    have h0 : 0 ≤ u := by
      by_cases h4 : u < 0
      · exact absurd (.inr h4) ha
      · omega
    by_cases h6 : 64 ≤ l.length
    · have he : opE l m cc u = 6 := by unfold opE; rw [if_neg ha, if_pos h6]
      unfold opI opL opN
      rw [he, if_neg (by decide), if_neg (by decide), if_neg (by decide)]
      refine (open_full h1 m cc u hs h0 h6 (by omega)).mono ?_
      rintro e w' ⟨rfl, hc⟩
      exact Post.quiet h rfl hc
    · have he : opE l m cc u = 0 := by unfold opE; rw [if_neg ha, if_neg h6]
      unfold opI opL opN
      rw [he, if_pos rfl, if_pos rfl, if_pos rfl]
      refine (open_yes h1 m cc u hs h0 (by omega) hn hf).mono ?_
      rintro e w' ⟨rfl, h3, hc⟩
      exact ⟨rfl, Bo.code h1 h2 h3 hc⟩
theorem rOpen (h : Bo w0 gl b gx l n l2 n2 w) (m cc u : Int) (hl : l2.length ≤ 64) (hn : n2 ≤ 1099511627776) :
    Calls Try.prog 19 #[.pointer (some ⟨gx, 0, none⟩), .agg #[.int .i64 m, .int .i64 cc], .int .i64 u] w (Post w0 gl b gx (.tuple #[.int .i64 (opI l2 n2 m cc u), .int .i64 (opE l2 m cc u)]) l n (opL l2 n2 m cc u) (opN l2 n2 m cc u) w) := by
  obtain ⟨A, c, h1, h2⟩ := id h
  by_cases ha : isS m cc = false ∨ u < 0
  · have he : opE l2 m cc u = 1 := if_pos ha
    unfold opI opL opN
    rw [he, if_neg (by decide), if_neg (by decide), if_neg (by decide)]
    refine (xopen_arg w gx m cc u ha).mono ?_
    rintro e w' ⟨rfl, hc⟩
    exact Post.quiet h rfl hc
  · have hs : isS m cc = true := by cases h3 : isS m cc; exact absurd (.inl h3) ha; rfl
    have h0 : 0 ≤ u := by
      by_cases h4 : u < 0
      · exact absurd (.inr h4) ha
      · omega
    by_cases h6 : 64 ≤ l2.length
    · have he : opE l2 m cc u = 6 := by unfold opE; rw [if_neg ha, if_pos h6]
      unfold opI opL opN
      rw [he, if_neg (by decide), if_neg (by decide), if_neg (by decide)]
      refine (xopen_full h2 m cc u hs h0 h6 (by omega)).mono ?_
      rintro e w' ⟨rfl, hc⟩
      exact Post.quiet h rfl hc
    · have he : opE l2 m cc u = 0 := by unfold opE; rw [if_neg ha, if_neg h6]
      unfold opI opL opN
      rw [he, if_pos rfl, if_pos rfl, if_pos rfl]
      refine (xopen_yes h2 m cc u hs h0 (by omega) hn).mono ?_
      rintro e w' ⟨A', c', rfl, h3, hc, _⟩
      exact ⟨rfl, Bo.ref h1 h2 h3 hc⟩
theorem bAt (h : Bo w0 gl b gx l n l2 n2 w) (k now : Int) (hk : (Lit.int .i64 k).wf = true) :
    Calls Try.prog 13 #[.pointer (some ⟨gl, 0, none⟩), .int .i64 k, .int .i64 now] w (Post w0 gl b gx (.tuple #[.agg #[.int .i64 (atM l k now), .int .i64 (atC l k now)], .int .i64 (atE l k now)]) l n l2 n2 w) := by
  obtain ⟨A, c, h1, h2⟩ := id h
  unfold atM atC atE
  cases hf : fndL l k with
  | none =>
    refine (at_no h1 k now hk hf).mono ?_
    rintro e w' ⟨rfl, hc⟩
    exact Post.quiet h rfl hc
  | some x =>
    by_cases hu : x.u ≤ now
    · simp only [if_pos hu]
      refine (at_old h1 k now hk x hf hu).mono ?_
      rintro e w' ⟨rfl, hc⟩
      exact Post.quiet h rfl hc
    · simp only [if_neg hu]
      refine (at_yes h1 k now hk x hf (by omega)).mono ?_
      rintro e w' ⟨rfl, hc⟩
      exact Post.quiet h rfl hc
theorem rAtL (h : Bo w0 gl b gx l n l2 n2 w) (k now : Int) (hl : l2.length ≤ 64) :
    Calls Try.prog 20 #[.pointer (some ⟨gx, 0, none⟩), .int .i64 k, .int .i64 now] w (Post w0 gl b gx (.tuple #[.agg #[.int .i64 (atM l2 k now), .int .i64 (atC l2 k now)], .int .i64 (atE l2 k now)]) l n l2 n2 w) := by
  obtain ⟨A, c, h1, h2⟩ := id h
  unfold atM atC atE
  cases hf : fndL l2 k with
  | none =>
    refine (xat_no h2 (by omega) k now hf).mono ?_
    rintro e w' ⟨rfl, hc⟩
    exact Post.quiet h rfl hc
  | some x =>
    refine (xat_yes h2 (by omega) k now hf).mono ?_
    rintro e w' ⟨rfl, hc⟩
    exact Post.quiet h rfl hc
theorem bRenew (h : Bo w0 gl b gx l n l2 n2 w) (k now u : Int) (hk : (Lit.int .i64 k).wf = true) (hl : l.length ≤ 64) :
    Calls Try.prog 18 #[.pointer (some ⟨gl, 0, none⟩), .int .i64 k, .int .i64 now, .int .i64 u] w (Post w0 gl b gx (.int .i64 (atE l k now)) (reL l k now u) n l2 n2 w) := by
  obtain ⟨A, c, h1, h2⟩ := id h
  unfold atE reL
  cases hf : fndL l k with
  | none =>
    refine (renew_no h1 k now u hk hf).mono ?_
    rintro e w' ⟨rfl, hc⟩
    exact Post.quiet h rfl hc
  | some x =>
    by_cases hu : x.u ≤ now
    · simp only [if_pos hu]
      refine (renew_old h1 k now u hk x hf hu).mono ?_
      rintro e w' ⟨rfl, hc⟩
      exact Post.quiet h rfl hc
    · simp only [if_neg hu]
      refine (renew_yes h1 k now u hk x hf (by omega) (by omega)).mono ?_
      rintro e w' ⟨rfl, h3, hc⟩
      rw [Int.max_comm] at h3
      exact ⟨rfl, Bo.code h1 h2 h3 (hc.mono (by simp))⟩
theorem rRenew (h : Bo w0 gl b gx l n l2 n2 w) (k now u : Int) (nd : (l2.map LV.id).Nodup) (hl : l2.length ≤ 64) :
    Calls Try.prog 21 #[.pointer (some ⟨gx, 0, none⟩), .int .i64 k, .int .i64 now, .int .i64 u] w (Post w0 gl b gx (.int .i64 (atE l2 k now)) l n (reL l2 k now u) n2 w) := by
  obtain ⟨A, c, h1, h2⟩ := id h
  unfold atE reL
  cases hf : fndL l2 k with
  | none =>
    refine (xrenew_no h2 (by omega) k now u hf).mono ?_
    rintro e w' ⟨rfl, hc⟩
    exact Post.quiet h rfl hc
  | some x =>
    by_cases hu : x.u ≤ now
    · simp only [if_pos hu]
      refine (xrenew_old h2 (by omega) k now u hf hu).mono ?_
      rintro e w' ⟨rfl, hc⟩
      exact Post.quiet h rfl hc
    · simp only [if_neg hu]
      refine (xrenew_yes h2 nd (by omega) k now u hf (by omega)).mono ?_
      rintro e w' ⟨rfl, h3, hc⟩
      exact ⟨rfl, Bo.ref h1 h2 h3 (hc.mono (fun x hx => .inl (List.mem_cons_of_mem _ hx)))⟩
def reach3 (i m : Int) : List Int := [i, m, i]
theorem bClose (h : Bo w0 gl b gx l n l2 n2 w) {g : Nat} {i m : Int} (hg : At w g 3 #[.int .i64 i, .int .i64 m, .int .i64 i]) (hi : (Lit.int .i64 i).wf = true) (hm : (Lit.int .i64 m).wf = true) (hl : l.length ≤ 64) :
    Calls Try.prog 11 #[.pointer (some ⟨gl, 0, none⟩), .slice (some ⟨g, 0, none⟩) 3 3] w (Post w0 gl b gx (.int .i64 ((l.length : Int) - ((delAll l (reach3 i m)).length : Int))) (delAll l (reach3 i m)) n l2 n2 w) := by
  obtain ⟨A, c, h1, h2⟩ := id h
  refine (close_all h1 (some ⟨g, 0, none⟩) 3 3 (reach3 i m) rfl (fun w' hc => Rd.of_at (hg.keep hc (fun hm => map_ne h1.map hg (List.mem_singleton.1 hm))) rfl) ?_ (by simp [reach3]) (by omega)).mono ?_
  · intro k hk
    simp only [reach3, List.mem_cons, List.not_mem_nil, or_false] at hk
    rcases hk with rfl | rfl | rfl
    · exact hi
    · exact hm
    · exact hi
  · rintro e w' ⟨rfl, h3, hc⟩
    exact ⟨rfl, Bo.code h1 h2 h3 (hc.mono (by simp))⟩
theorem rClose (h : Bo w0 gl b gx l n l2 n2 w) {g : Nat} {i m : Int} (hg : At w g 3 #[.int .i64 i, .int .i64 m, .int .i64 i]) (nd : (l2.map LV.id).Nodup) (hl : l2.length ≤ 64) :
    Calls Try.prog 22 #[.pointer (some ⟨gx, 0, none⟩), .slice (some ⟨g, 0, none⟩) 3 3] w (Post w0 gl b gx (.int .i64 ((l2.length : Int) - ((delAll l2 (reach3 i m)).length : Int))) l n (delAll l2 (reach3 i m)) n2 w) := by
  obtain ⟨A, c, h1, h2⟩ := id h
  refine (xclose_all h2 nd (some ⟨g, 0, none⟩) 3 3 (reach3 i m) rfl (fun w' hc => Rd.of_at (hg.keep hc (fun hm => by
    obtain rfl := List.mem_singleton.1 hm
    exact absurd (at_inj hg h2.at_) (by decide))) rfl) (by simp [reach3]) (by omega)).mono ?_
  rintro e w' ⟨A', c', rfl, h3, hc⟩
  exact ⟨rfl, Bo.ref h1 h2 h3 (hc.mono (by simp))⟩
theorem bExpire (h : Bo w0 gl b gx l n l2 n2 w) (now : Int) (hl : l.length ≤ 64) :
    Calls Try.prog 16 #[.pointer (some ⟨gl, 0, none⟩), .int .i64 now] w (Post w0 gl b gx (.int .i64 ((l.length : Int) - ((expL l now).length : Int))) (expL l now) n l2 n2 w) := by
  obtain ⟨A, c, h1, h2⟩ := id h
  refine (expire_all h1 now (by omega)).mono ?_
  rintro e w' ⟨rfl, h3, hc⟩
  exact ⟨rfl, Bo.code h1 h2 h3 (hc.mono (by simp))⟩
theorem rExpire (h : Bo w0 gl b gx l n l2 n2 w) (now : Int) (hl : l2.length ≤ 64) :
    Calls Try.prog 23 #[.pointer (some ⟨gx, 0, none⟩), .int .i64 now] w (Post w0 gl b gx (.int .i64 ((l2.length : Int) - ((expL l2 now).length : Int))) l n (expL l2 now) n2 w) := by
  obtain ⟨A, c, h1, h2⟩ := id h
  refine (xexpire_all h2 now (by omega)).mono ?_
  rintro e w' ⟨A', c', rfl, h3, hc⟩
  exact ⟨rfl, Bo.ref h1 h2 h3 (hc.mono (by simp))⟩
theorem bLen (h : Bo w0 gl b gx l n l2 n2 w) : Calls Try.prog 17 #[.pointer (some ⟨gl, 0, none⟩)] w fun e w' => e = .returned (.int .i64 l.length) ∧ Chg [] w w' := by
  obtain ⟨A, c, h1, h2⟩ := id h
  refine (llen_all h1).mono ?_
  rintro e w' ⟨rfl, rfl⟩
  exact ⟨rfl, Chg.refl _ _⟩
theorem rLen (h : Bo w0 gl b gx l n l2 n2 w) : Calls Try.prog 24 #[.pointer (some ⟨gx, 0, none⟩)] w fun e w' => e = .returned (.int .i64 l2.length) ∧ Chg [] w w' := by
  obtain ⟨A, c, h1, h2⟩ := id h
  refine (xlen_all h2).mono ?_
  rintro e w' ⟨rfl, rfl⟩
  exact ⟨rfl, Chg.refl _ _⟩
theorem bFloor (h : Bo w0 gl b gx l n l2 n2 w) (m cc : Int) : Calls Try.prog 15 #[.pointer (some ⟨gl, 0, none⟩), .agg #[.int .i64 m, .int .i64 cc]] w fun e w' => ∃ f : St, e = .returned (.agg #[.int .i64 f.m, .int .i64 f.c]) ∧ IsFloor l ⟨m, cc⟩ f ∧ Chg [] w w' := by
  obtain ⟨A, c, h1, h2⟩ := id h
  exact floor_all h1 m cc
theorem rFloor (h : Bo w0 gl b gx l n l2 n2 w) (m cc : Int) (hl : l2.length ≤ 64) {f : St} (hf : IsFloor l2 ⟨m, cc⟩ f) : Calls Try.prog 25 #[.pointer (some ⟨gx, 0, none⟩), .agg #[.int .i64 m, .int .i64 cc]] w fun e w' => e = .returned (.agg #[.int .i64 f.m, .int .i64 f.c]) ∧ Chg [] w w' := by
  obtain ⟨A, c, h1, h2⟩ := id h
  refine (xfloor_all h2 m cc (by omega)).mono ?_
  rintro e w' ⟨f', rfl, h3, hc⟩
  obtain rfl := hf.uniq h3
  exact ⟨rfl, hc⟩
end
/-- What is always so. -/
structure LInv (l : List LV) (n k : Nat) : Prop where
  len : l.length ≤ 64
  nd : (l.map LV.id).Nodup
  ids : ∀ x ∈ l, x.id < n
  n : n ≤ k
theorem LInv.fresh {l : List LV} {n k : Nat} (h : LInv l n k) : fndL l n = none := by
  unfold fndL
  rw [List.find?_eq_none]
  intro x hx
  have := h.ids x hx
  have h2 : x.id ≠ (n : Int) := by omega
  simpa using h2
theorem LInv.nil : LInv [] 0 0 := ⟨by simp, List.nodup_nil, by simp, Nat.le_refl _⟩
theorem LInv.up {l : List LV} {n k : Nat} (h : LInv l n k) : LInv l n (k + 1) := ⟨h.len, h.nd, h.ids, Nat.le_succ_of_le h.n⟩
theorem LInv.open {l : List LV} {n k : Nat} (h : LInv l n k) (m c u : Int) : LInv (opL l n m c u) (opN l n m c u) (k + 1) := by
  unfold opL opN
  by_cases he : opE l m c u = 0
  · rw [if_pos he, if_pos he]
    have h6 : ¬ 64 ≤ l.length := fun h6 => by
      unfold opE at he
      rw [if_pos h6] at he
      split at he <;> simp at he
    refine ⟨by simp; omega, ?_, fun x hx => ?_, by have := h.n; omega⟩
    · rw [List.map_append, List.nodup_append]
      refine ⟨h.nd, by simp, fun a ha c' hc' => ?_⟩
      simp at hc'
      subst hc'
      obtain ⟨x, hx, rfl⟩ := List.mem_map.1 ha
      have := h.ids x hx
      omega
    · rcases List.mem_append.1 hx with hx | hx
      · have := h.ids x hx; omega
      · obtain rfl := List.mem_singleton.1 hx
        show (n : Int) < ((n + 1 : Nat) : Int)
        omega
  · rw [if_neg he, if_neg he]; exact h.up
theorem LInv.sub {l l' : List LV} {n k : Nat} (h : LInv l n k) (hs : l'.Sublist l) : LInv l' n (k + 1) :=
  ⟨Nat.le_trans hs.length_le h.len, h.nd.sublist (hs.map _), fun x hx => h.ids x (hs.subset hx), Nat.le_succ_of_le h.n⟩
theorem delAll_sub (ids : List Int) : ∀ (l : List LV), (delAll l ids).Sublist l := by
  induction ids with
  | nil => exact fun l => List.Sublist.refl l
  | cons a ids ih => exact fun l => (ih (delL l a)).trans List.filter_sublist
theorem LInv.renew {l : List LV} {n k : Nat} (h : LInv l n k) (i now u : Int) : LInv (reL l i now u) n (k + 1) := by
  unfold reL
  cases hf : fndL l i with
  | none => exact h.up
  | some x =>
    by_cases hu : x.u ≤ now
    · simp only [if_pos hu]; exact h.up
    · simp only [if_neg hu]
      have hi := setL_ids l i x.m x.c (max x.u u)
      have hl : (setL l i x.m x.c (max x.u u)).length = l.length := by have := congrArg List.length hi; simpa using this
      refine ⟨by rw [hl]; exact h.len, by rw [hi]; exact h.nd, fun y hy => ?_, Nat.le_succ_of_le h.n⟩
      have h1 : y.id ∈ (setL l i x.m x.c (max x.u u)).map LV.id := List.mem_map_of_mem hy
      rw [hi] at h1
      obtain ⟨z, hz, e⟩ := List.mem_map.1 h1
      rw [← e]
      exact h.ids z hz
end Go.Proofs.Ytbijglnkohmafaa
