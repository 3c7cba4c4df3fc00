/-
  vec.Vec: its methods; the reference's Vec.
-/
import Derived.Test.YtdlpcdehmpkedaaVecD
namespace Go.Proofs.Ytdlpcdehmpkedaa
open Go.RowKit
attribute [local go_sem ↓] Go.wp_at_zero Go.wp_at_succ

/-- A Vec at block B: what is known lies at block k, the floors at block f. -/
structure VecAt (w : World) (T : TypeId) (B k f : Nat) (ks fs : List St) : Prop where
  at_ : At w B T #[.slice (some ⟨k, 0, none⟩) ks.length ks.length, .slice (some ⟨f, 0, none⟩) fs.length fs.length]
  ks_ : Sts w k ks
  fs_ : Sts w f fs
  ne1 : k ≠ f
  ne2 : B ≠ k
  ne3 : B ≠ f
theorem VecAt.keep {w w' : World} {T : TypeId} {B k f : Nat} {ks fs : List St} (h : VecAt w T B k f ks fs) {S : List Nat} (hc : Chg S w w') (hB : B ∉ S) (hk : k ∉ S) (hf : f ∉ S) : VecAt w' T B k f ks fs :=
  ⟨h.at_.keep hc hB, At.keep h.ks_ hc hk, At.keep h.fs_ hc hf, h.ne1, h.ne2, h.ne3⟩
theorem VecAt.keep0 {w w' : World} {T : TypeId} {B k f : Nat} {ks fs : List St} (h : VecAt w T B k f ks fs) (hc : Chg [] w w') : VecAt w' T B k f ks fs := h.keep hc (by simp) (by simp) (by simp)
theorem VecAt.known {w w' : World} {T : TypeId} {B k f : Nat} {ks fs ks' : List St} (h : VecAt w T B k f ks fs) (hc : Chg [k] w w') (h' : Sts w' k ks') (hl : ks'.length = ks.length) : VecAt w' T B k f ks' fs :=
  ⟨by rw [hl]; exact h.at_.keep hc (by simp [h.ne2]), h', At.keep h.fs_ hc (by simp; exact h.ne1.symm), h.ne1, h.ne2, h.ne3⟩
theorem VecAt.floor {w w' : World} {T : TypeId} {B k f : Nat} {ks fs fs' : List St} (h : VecAt w T B k f ks fs) (hc : Chg [f] w w') (h' : Sts w' f fs') (hl : fs'.length = fs.length) : VecAt w' T B k f ks fs' :=
  ⟨by rw [hl]; exact h.at_.keep hc (by simp [h.ne3]), At.keep h.ks_ hc (by simp; exact h.ne1), h', h.ne1, h.ne2, h.ne3⟩

set_option maxHeartbeats 1600000 in
theorem reach_any (w : World) (B k f : Nat) (ks fs : List St) (i m c : Int) (hV : VecAt w 45 B k f ks fs) :
    Calls Try.prog 12 #[.pointer (some ⟨B, 0, none⟩), .int .i64 i, .agg #[.int .i64 m, .int .i64 c]] w fun e w' => e = .returned (.bool (raiseOk ks i ⟨m, c⟩)) ∧ VecAt w' 45 B k f (raiseL ks i ⟨m, c⟩) fs ∧ Chg [k] w w' := by
  have hB := hV.at_.lt
  have b0 := hV.at_.cell 0
  have b1 := hV.at_.cell 1
  have hs1 := At.new w 24 #[.int .i64 m, .int .i64 c]
  obtain ⟨p0, p1, p2⟩ := hs1.st
  go_enter Try.func12, Try.ntmps12
  go_wp2_with (fail)
  go_region_held3 (fun w' => w'.cell? ⟨w.heap.size, 0, none⟩ = some (.int .i64 m) ∧ w'.cell? ⟨w.heap.size, 1, none⟩ = some (.int .i64 c) ∧ w'.cell? ⟨B, 0, none⟩ = some (.slice (some ⟨k, 0, none⟩) ks.length ks.length)) (first | go_keep | exact ⟨s0, s1, s2⟩)
    (first | (go_at_call 25; refine (raises_any _ k ks _ i m c rfl (At.keep hV.ks_ (((Chg.refl [] _).alloc _).drewN 1) (by simp))).mono ?_; rintro e w3 ⟨rfl, hA3, hch3⟩; have hk3 : w.heap.size ∉ [k] := (by have := At.lt hV.ks_; simp; omega); have hs3 := (hs1.drewN 1).keep hch3 hk3; obtain ⟨s0, s1, _⟩ := hs3.st; have s2 := ((hV.at_.keep (((Chg.refl [] _).alloc (.cells #[.int .i64 m, .int .i64 c] 24)).drewN 1) (by simp)).keep hch3 (by simp [hV.ne2])).cell 0))
  go_wp2_with (fail)
  go_ret
  have hch : Chg [k] w w3 := (((Chg.refl _ _).alloc _).drewN 1).trans hch3 (by simp)
  exact ⟨rfl, hV.known hch hA3 (raiseL_len _ _ _), hch⟩
end Go.Proofs.Ytdlpcdehmpkedaa
