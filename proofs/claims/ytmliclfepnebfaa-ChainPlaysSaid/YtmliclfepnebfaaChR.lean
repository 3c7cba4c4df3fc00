
/-
  chain: a chain among other things; Of; what nothing answers.
-/
import Derived.Test.YtmliclfepnebfaaChQ
namespace Go.Proofs.Ytmliclfepnebfaa
open Go.RowKit
set_option linter.unusedVariables false
set_option linter.unusedSimpArgs false
theorem putE_zero {l : List VV} {v : VV} : putE l v = 0 ↔ isVV v = true ∧ hasV l v = false := by
  unfold putE
  cases isVV v
  · simp
  · cases hasV l v <;> simp
theorem insV_len (l : List VV) (v : VV) : (insV l v).length = l.length + 1 := by
  have h := posV_le l v
  unfold insV
  rw [List.length_append, List.length_cons, List.length_take, List.length_drop]; omega
theorem insV_mem {l : List VV} {v x : VV} : x ∈ insV l v ↔ x = v ∨ x ∈ l := by
  unfold insV
  rw [List.mem_append, List.mem_cons]
  have h : x ∈ l ↔ x ∈ l.take (posV l v) ∨ x ∈ l.drop (posV l v) := by rw [← List.mem_append, List.take_append_drop]
  rw [h]; constructor
  · rintro (h | h | h)
    · exact .inr (.inl h)
    · exact .inl h
    · exact .inr (.inr h)
  · rintro (h | h | h)
    · exact .inr (.inl h)
    · exact .inl h
    · exact .inr (.inr h)
theorem cmpV_flip {a b : VV} (h : ¬ cmpV a b < 0) (h0 : ¬ cmpV a b = 0) : cmpV b a < 0 := by
  rw [cmpV_lt] at *; rw [cmpV_eq] at h0; omega
theorem insV_rise {l : List VV} {v : VV} (h : Rise l) (h2 : hasV l v = false) : Rise (insV l v) := by
  have hn : ∀ x ∈ l, ¬ cmpV x v = 0 := fun x hx h0 => by
    have h3 : hasV l v = true := List.any_eq_true.2 ⟨x, hx, by rw [h0]; rfl⟩
    rw [h2] at h3; cases h3
  have hlo : ∀ x ∈ l.take (posV l v), cmpV x v < 0 := fun x hx => by
    obtain ⟨i, hi, rfl⟩ := List.getElem_of_mem hx
    rw [List.length_take] at hi
    rw [List.getElem_take]
    exact (posV_iff h v (by omega)).2 (by omega)
  have hhi : ∀ x ∈ l.drop (posV l v), cmpV v x < 0 := fun x hx => by
    obtain ⟨i, hi, rfl⟩ := List.getElem_of_mem hx
    rw [List.length_drop] at hi
    rw [List.getElem_drop]
    refine cmpV_flip (fun h5 => ?_) (hn _ (List.getElem_mem _))
    have := (posV_iff h v (by omega)).1 h5
    omega
  unfold insV Rise
  rw [List.pairwise_append, List.pairwise_cons]
  refine ⟨List.Pairwise.sublist (List.take_sublist _ _) h, ⟨hhi, List.Pairwise.sublist (List.drop_sublist _ _) h⟩, fun a ha b hb => ?_⟩
  rcases List.mem_cons.1 hb with rfl | hb
  · exact hlo a ha
  · exact cmpV_trans (hlo a ha) (hhi b hb)
/-- A chain as it must be. -/
structure Good (l : List VV) : Prop where
  rise : Rise l
  valid : Valid l
theorem Good.nil : Good [] := ⟨List.Pairwise.nil, fun v hv => by cases hv⟩
theorem Good.put {l : List VV} (h : Good l) (v : VV) : Good (putL l v) := by
  unfold putL
  split
  · rename_i h0
    obtain ⟨h1, h2⟩ := putE_zero.1 h0
    exact ⟨insV_rise h.rise h2, fun x hx => by rcases insV_mem.1 hx with rfl | hx; exact h1; exact h.valid x hx⟩
  · exact h
theorem putL_len (l : List VV) (v : VV) : (putL l v).length ≤ l.length + 1 := by
  unfold putL
  split
  · rw [insV_len]; exact Nat.le_refl _
  · omega
theorem Good.drop {l : List VV} (h : Good l) (n : Nat) : Good (l.drop n) := ⟨List.Pairwise.sublist (List.drop_sublist _ _) h.rise, fun v hv => h.valid v (List.mem_of_mem_drop hv)⟩
/-- Versions laid one behind the other, until one is refused. -/
def ofR : List VV → List VV → Int × List VV
  | acc, [] => (0, acc)
  | acc, v :: l => if putE acc v = 0 then ofR (putL acc v) l else (putE acc v, acc)
section
variable {T : TypeId} {w0 w w' : World} {gn : Nat} {l : List VV} {rs : List Res}
theorem ChA.quiet (h : ChA T w0 w gn l rs) (hc : Chg [] w w') : ChA T w0 w' gn l rs := by
  obtain ⟨A, c, ms, e, H⟩ := h
  exact ⟨A, c, ms, e, H.quiet hc⟩
theorem ChA.chg (h : ChA T w0 w gn l rs) : Chg [] w0 w := by
  obtain ⟨A, c, ms, _, H⟩ := h
  exact H.chg
theorem ChA.beside (h : ChA T w0 w gn l rs) {rs' : List Res} (f : ∀ r, All w0 w (rs ++ [r]) → All w0 w' (rs' ++ [r])) : ChA T w0 w' gn l rs' := by
  obtain ⟨A, c, ms, e, H⟩ := h
  have h2 := f _ (H.perm (List.perm_append_singleton _ _).symm)
  exact ⟨A, c, ms, e, h2.perm (List.perm_append_singleton _ _)⟩
/-- A new structure without versions. -/
theorem ChA.start (h : All w0 w rs) {g : Nat} (hg : g = w.heap.size) : ChA T w0 (w.alloc (.cells #[.slice none 0 0] T)) g [] rs := by
  subst hg
  refine ⟨none, 0, [], rfl, h.new ((Chg.refl _ _).alloc _) _ (fun b hb => ?_) (by simp [rCh, vsF, datV, blk]) ⟨⟨World.ownsRow_nil _ _ _ _, fun m hm => by cases hm⟩, At.new _ _ _⟩ (rCh_stable _ _ _ _ _ _)⟩
  simp [rCh, vsF, datV, blk] at hb
  subst hb
  simp
/-- What was made behind w stands beside what was there. -/
theorem ChA.embed (h : ChA T w w' gn l []) (H : All w0 w rs) : ChA T w0 w' gn l rs := by
  obtain ⟨A, c, ms, e, hA⟩ := h
  refine ⟨A, c, ms, e, H.new hA.chg _ (fun b hb => ⟨(hA.rng 0 rfl b hb).1, (hA.rng 0 rfl b hb).2⟩) ?_ (hA.get 0 rfl) (rCh_stable _ _ _ _ _ _)⟩
  have := hA.nodup
  simpa using this
theorem putC_all (h : ChA 65 w0 w gn l rs) (hl : l.length ≤ 1000000) (hr : Rise l) (xm xc xo : Int) (xA : Option Addr) (xp : Nat) (xg : Bool) (xt : Int) (xd : List UInt8) (hxr : Rd w 1 xA xd.length (cB xd)) (hxl : xd.length ≤ 1099511627776) (hxn : xA = none → xp = 0) :
    Calls Try.prog 15 #[.pointer (some ⟨gn, 0, none⟩), .agg #[.int .i64 xm, .int .i64 xc, .int .i64 xo, .slice xA xd.length xp, .bool xg, .int .i64 xt]] w fun e w' => e = .returned (.int .i64 (putE l ⟨xm, xc, xo, xd, xg, xt⟩)) ∧ ChA 65 w0 w' gn (putL l ⟨xm, xc, xo, xd, xg, xt⟩) rs := by
  obtain ⟨A, c, ms, rfl, H⟩ := h
  have hP := H.get 0 rfl
  rw [List.length_map] at hl
  refine (putC_raw w gn A c ms hP hl hr xm xc xo xA xp xg xt xd hxr hxl hxn).mono ?_
  rintro e w1 ⟨rfl, h1 | h1⟩
  · refine ⟨rfl, A, c, ms, ?_, H.quiet h1.2⟩
    unfold putL; rw [if_neg h1.1]
  · obtain ⟨h0, A', c', A5, c5, h2, hc, hA, h5⟩ := h1
    refine ⟨rfl, A', c', _, ?_, ChP.head H ch_ne.1 ch_ne.2 (hc.mono (fun j hj => .inl ?_)) h2 (fun j hj => ?_) ?_⟩
    · unfold putL insV
      rw [if_pos h0, List.map_append, List.map_cons, List.map_take, List.map_drop]; rfl
    · rcases List.mem_cons.1 hj with rfl | hj
      · exact List.mem_cons_self
      · exact List.mem_cons_of_mem _ (List.mem_append_left _ hj)
    · rcases List.mem_append.1 hj with hj | hj
      · exact (hA j hj).imp (List.mem_append_left _) id
      · rcases List.mem_append.1 ((datV_ins _ _ _).mem_iff.1 hj) with hj | hj
        · exact .inl (List.mem_append_right _ hj)
        · exact .inr (h5 j hj)
    · refine (datV_ins _ _ _).nodup_iff.2 (List.nodup_append.2 ⟨rCh_datV H, blk_nodup _, fun a ha b hb hab => ?_⟩)
      subst hab
      have h6 := h5 a hb
      have h7 := hP.toVsP.lt a (List.mem_append_right _ ha)
      omega
theorem trimC_all (h : ChA 65 w0 w gn l rs) (hl : l.length ≤ 1000000) (hV : Valid l) (sm sc : Int) (hs : sm ≤ 9223372036854775807) :
    Calls Try.prog 26 #[.pointer (some ⟨gn, 0, none⟩), .agg #[.int .i64 sm, .int .i64 sc]] w fun e w' => e = .returned (.int .i64 (trimN l ⟨sm, sc⟩)) ∧ ChA 65 w0 w' gn (l.drop (trimN l ⟨sm, sc⟩)) rs := by
  obtain ⟨A, c, ms, rfl, H⟩ := h
  have hP := H.get 0 rfl
  rw [List.length_map] at hl
  refine (trimC_raw w gn A c ms hP hl hV sm sc hs).mono ?_
  rintro e w1 ⟨rfl, h1 | ⟨A', c', h2, hc, hA⟩⟩
  · exact ⟨rfl, A, c, ms, by rw [h1.1]; rfl, H.quiet h1.2⟩
  · have hsub : (datV (ms.drop (trimN (ms.map VrV.v) ⟨sm, sc⟩))).Sublist (datV ms) := by
      have h3 : datV ms = datV (ms.take (trimN (ms.map VrV.v) ⟨sm, sc⟩)) ++ datV (ms.drop (trimN (ms.map VrV.v) ⟨sm, sc⟩)) := by
        have h4 : datV ms = datV (ms.take (trimN (ms.map VrV.v) ⟨sm, sc⟩) ++ ms.drop (trimN (ms.map VrV.v) ⟨sm, sc⟩)) := by rw [List.take_append_drop]
        rw [h4]; simp only [datV, List.flatMap_append]
      rw [h3]; exact List.sublist_append_right _ _
    refine ⟨rfl, A', c', _, by rw [List.map_drop], ChP.head H ch_ne.1 ch_ne.2 (hc.mono (fun j hj => .inl ?_)) h2 (fun j hj => ?_) (List.Pairwise.sublist hsub (rCh_datV H))⟩
    · obtain rfl := List.mem_singleton.1 hj; exact List.mem_cons_self
    · rcases List.mem_append.1 hj with hj | hj
      · exact .inr (hA j hj)
      · exact .inl (List.mem_append_right _ (hsub.subset hj))
theorem atC_all (h : ChA 65 w0 w gn l rs) (hl : l.length ≤ 1000000) (hV : Valid l) (sm sc : Int) :
    Calls Try.prog 21 #[.pointer (some ⟨gn, 0, none⟩), .agg #[.int .i64 sm, .int .i64 sc]] w (AtPost (atX l ⟨sm, sc⟩) (atB l ⟨sm, sc⟩) w) := by
  obtain ⟨A, c, ms, rfl, H⟩ := h
  rw [List.length_map] at hl
  exact atC_raw w gn A c ms (H.get 0 rfl) hl sm sc (fun m hm => by have := (hV.at_ hm).d; exact Nat.le_trans this (by decide))
theorem getC_all (h : ChA 65 w0 w gn l rs) (hl : l.length ≤ 1000000) (hV : Valid l) (sm sc : Int) (hs : sm ≤ 9223372036854775807) :
    Calls Try.prog 23 #[.pointer (some ⟨gn, 0, none⟩), .agg #[.int .i64 sm, .int .i64 sc]] w (GetPost (getD l ⟨sm, sc⟩) (getB l ⟨sm, sc⟩) w) := by
  obtain ⟨A, c, ms, rfl, H⟩ := h
  rw [List.length_map] at hl
  exact getC_raw w gn A c ms (H.get 0 rfl) hl hV sm sc hs
theorem allC_all (h : ChA 65 w0 w gn l rs) (hl : l.length ≤ 1000000) (hV : Valid l) :
    Calls Try.prog 28 #[.pointer (some ⟨gn, 0, none⟩)] w (AllPost l w) := by
  obtain ⟨A, c, ms, rfl, H⟩ := h
  rw [List.length_map] at hl
  exact allC_raw w gn A c ms (H.get 0 rfl) hl hV
end
/-- What a row of versions must be like to be laid. -/
structure Laid (w : World) (A : Option Addr) (ls : List VrV) : Prop where
  rd : Rd w 6 A ls.length (cVr ls)
  dat : ∀ m ∈ ls, Rd w 1 m.A m.val.length (cB m.val)
  len : ∀ m ∈ ls, m.val.length ≤ 1099511627776
  nil_ : ∀ m ∈ ls, m.A = none → m.cp = 0
theorem Laid.keep {w w' : World} {A : Option Addr} {ls : List VrV} (h : Laid w A ls) (hc : Chg [] w w') : Laid w' A ls := ⟨h.rd.keep0 hc, fun m hm => (h.dat m hm).keep0 hc, h.len, h.nil_⟩
def OfPost (T : TypeId) (l : List VV) (w : World) (e : Ending) (w' : World) : Prop :=
  ((ofR [] l).1 = 0 ∧ ∃ gn, e = .returned (.tuple #[.pointer (some ⟨gn, 0, none⟩), .int .i64 0]) ∧ ChA T w w' gn (ofR [] l).2 [] ∧ Good (ofR [] l).2 ∧ (ofR [] l).2.length ≤ l.length) ∨
  ((ofR [] l).1 ≠ 0 ∧ e = .returned (.tuple #[.pointer none, .int .i64 (ofR [] l).1]) ∧ Chg [] w w')
end Go.Proofs.Ytmliclfepnebfaa
