
/-
  net: a Net among the things in memory.
-/
import Derived.Test.YtbgdcplbekoemaaNetL
import Derived.Test.YtbgdcplbekoemaaSep
namespace Go.Proofs.Ytbgdcplbekoemaa
open Go.RowKit
set_option linter.unusedVariables false

/-- A message under way, without its place. -/
structure MV where
  f : Int
  t : Int
  d : List UInt8
  sp : Bool
def UdV.val (x : UdV) : MV := ⟨x.f, x.t, x.d, x.sp⟩
def datF (ms : List UdV) : List Nat := ms.flatMap fun m => blk m.A
def netF (gn : Nat) (A : Option Addr) (ms : List UdV) : List Nat := gn :: (blk A ++ datF ms)
def NetP (gn : Nat) (A : Option Addr) (c : Nat) (ms : List UdV) (w : World) : Prop :=
  At w gn 56 #[.slice A ms.length c] ∧ w.ownsRow 0 59 4 (.slice A ms.length c) ms.length (cUd ms) ∧ ∀ m ∈ ms, w.ownsRow 0 5 1 (.slice m.A m.d.length m.cp) m.d.length (cB m.d)
def rNet (gn : Nat) (A : Option Addr) (c : Nat) (ms : List UdV) : Res := ⟨netF gn A ms, NetP gn A c ms⟩
theorem mem_datF {ms : List UdV} {m : UdV} (hm : m ∈ ms) {j : Nat} (hj : j ∈ blk m.A) : j ∈ datF ms := List.mem_flatMap.2 ⟨m, hm, hj⟩
theorem rNet_stable (w0 : World) (gn : Nat) (A : Option Addr) (c : Nat) (ms : List UdV) : Stable w0 (rNet gn A c ms) := fun w w' h hs hk =>
  ⟨At.stable h.1 (hk gn (At.lt h.1) (.inl (by simp [rNet, netF]))), own_stable h.2.1 (fun b hb hm => hk b hb (.inl (by simp [rNet, netF, hm]))), fun m hm => own_stable (h.2.2 m hm) (fun b hb hj => hk b hb (.inl (by simp only [rNet, netF, List.mem_cons, List.mem_append]; exact .inr (.inr (mem_datF hm hj)))))⟩
section
variable {w0 w w' : World} {gn : Nat} {A A' : Option Addr} {c c' : Nat} {ms ms' : List UdV} {rs : List Res}
theorem NetH.of_all (h : All w0 w (rNet gn A c ms :: rs)) : NetH w0 w gn A c ms := by
  obtain ⟨h1, h2, h3⟩ := h.get 0 rfl
  have hr := h.rng 0 rfl
  refine ⟨h1, own_base h2 (fun j hj => (hr j ?_).1), fun m hm => own_base (h3 m hm) (fun j hj => (hr j ?_).1), (hr gn (by simp [rNet, netF])).1, h.chg⟩
  · simp only [rNet, netF, List.mem_cons, List.mem_append]; exact .inr (.inl (bo _ _ _ _ hj))
  · simp only [rNet, netF, List.mem_cons, List.mem_append]; exact .inr (.inr (mem_datF hm (bo _ _ _ _ hj)))
theorem NetH.p (h : NetH w0 w gn A c ms) : NetP gn A c ms w := ⟨h.at_, own_base h.row (fun _ _ => Nat.zero_le _), fun m hm => own_base (h.dat m hm) (fun _ _ => Nat.zero_le _)⟩
theorem NetH.nodup (h : NetH w0 w gn A c ms) (hd : (datF ms).Nodup) : (netF gn A ms).Nodup := by
  refine List.nodup_cons.2 ⟨fun hm => ?_, List.nodup_append.2 ⟨blk_nodup A, hd, fun a ha b hb hab => ?_⟩⟩
  · rcases List.mem_append.1 hm with h1 | h1
    · exact own_at_ne h.row h.at_ (by decide) gn (ob _ _ _ _ h1) rfl
    · obtain ⟨m, hm, hj⟩ := List.mem_flatMap.1 h1
      exact own_at_ne (h.dat m hm) h.at_ (by decide) gn (ob _ _ _ _ hj) rfl
  · subst hab
    obtain ⟨m, hm, hj⟩ := List.mem_flatMap.1 hb
    exact own_ne1 h.row (h.dat m hm) (by decide) a (ob _ _ _ _ ha) (ob _ _ _ _ hj)
theorem NetH.lt (h : NetH w0 w gn A c ms) : ∀ j ∈ netF gn A ms, j < w.heap.size := fun j hj => by
  rcases List.mem_cons.1 hj with rfl | hj
  · exact h.at_.lt
  · rcases List.mem_append.1 hj with h1 | h1
    · exact (own_in h.row j h1).2
    · obtain ⟨m, hm, hj⟩ := List.mem_flatMap.1 h1
      exact (own_in (h.dat m hm) j hj).2
theorem All.datF (h : All w0 w (rNet gn A c ms :: rs)) : (datF ms).Nodup := by
  have hn := h.nodup
  simp only [List.map_cons, List.flatten_cons, List.nodup_append] at hn
  exact (List.nodup_append.1 (List.nodup_cons.1 hn.1).2).2.1
theorem NetH.head (H : All w0 w (rNet gn A c ms :: rs)) (hc : Chg (netF gn A ms) w w') (h : NetH w0 w' gn A' c' ms') (hA : ∀ j ∈ blk A', j ∈ netF gn A ms ∨ w.heap.size ≤ j) (hd : ∀ j ∈ Go.Proofs.Ytbgdcplbekoemaa.datF ms', j ∈ netF gn A ms ∨ w.heap.size ≤ j) (hn : (Go.Proofs.Ytbgdcplbekoemaa.datF ms').Nodup) : All w0 w' (rNet gn A' c' ms' :: rs) := by
  refine H.head hc _ (fun b hb => ⟨?_, h.lt b hb⟩) (h.nodup hn) h.p (rNet_stable _ _ _ _ _)
  rcases List.mem_cons.1 hb with rfl | hb
  · exact .inl (by simp [rNet, netF])
  · rcases List.mem_append.1 hb with h1 | h1
    · exact hA b h1
    · exact hd b h1
end
/-- A Net with these messages, among other things. -/
def NetA (w0 w : World) (gn : Nat) (l : List MV) (rs : List Res) : Prop := ∃ A c ms, ms.map UdV.val = l ∧ All w0 w (rNet gn A c ms :: rs)
section
variable {w0 w w' : World} {gn : Nat} {l : List MV} {rs : List Res}
theorem NetA.quiet (h : NetA w0 w gn l rs) (hc : Chg [] w w') : NetA w0 w' gn l rs := by
  obtain ⟨A, c, ms, e, H⟩ := h
  exact ⟨A, c, ms, e, H.quiet hc⟩
theorem len_all (h : NetA w0 w gn l rs) : Calls Try.prog 15 #[.pointer (some ⟨gn, 0, none⟩)] w fun e w' => e = .returned (.int .i64 l.length) ∧ w' = w := by
  obtain ⟨A, c, ms, rfl, H⟩ := h
  rw [List.length_map]
  exact len_net w0 w gn A c ms (NetH.of_all H)
theorem picked_nos (h : NetA w0 w gn [] rs) (p : Int) : Calls Try.prog 26 #[.pointer (some ⟨gn, 0, none⟩), .int .i64 p] w fun e w' => e = .returned (.tuple #[.int .i64 0, .bool false]) ∧ w' = w := by
  obtain ⟨A, c, ms, hm, H⟩ := h
  obtain rfl : ms = [] := by simpa using hm
  exact picked_no w0 w gn A c (NetH.of_all H) p
theorem lays_all (h : NetA w0 w gn l rs) (hl : l.length < 1024) (mf mt : Int) (d : List UInt8) (B : Option Addr) (n c2 : Nat) (msp : Bool) (hn : d.length = n) (hr : Rd w 1 B d.length (cB d)) (hdl : d.length ≤ 1099511627776) (hnil : B = none → c2 = 0) :
    Calls Try.prog 24 #[.pointer (some ⟨gn, 0, none⟩), .agg #[.int .i64 mf, .int .i64 mt, .slice B n c2, .bool msp]] w fun e w' => e = .returned (.bool true) ∧ NetA w0 w' gn (l ++ [⟨mf, mt, d, msp⟩]) rs ∧ w.heap.size ≤ w'.heap.size := by
  obtain ⟨A, c, ms, rfl, H⟩ := h
  rw [List.length_map] at hl
  refine (lays_yes w0 w gn A c ms (NetH.of_all H) hl mf mt d B n c2 msp hn hr hdl hnil).mono ?_
  rintro e w1 ⟨A1, c1, B1, c3, rfl, h1, hc, hA, hB⟩
  refine ⟨rfl, ⟨A1, c1, _, by simp [UdV.val], NetH.head H (hc.mono (fun j hj => .inl ?_)) h1 (fun j hj => (hA j hj).imp (fun h => ?_) id) (fun j hj => ?_) ?_⟩, hc.size⟩
  · rcases List.mem_cons.1 hj with rfl | hj
    · exact List.mem_cons_self
    · exact List.mem_cons_of_mem _ (List.mem_append_left _ hj)
  · exact List.mem_cons_of_mem _ (List.mem_append_left _ h)
  · have hj2 : j ∈ datF ms ∨ j ∈ blk B1 := by simpa [datF] using hj
    exact hj2.imp (fun h => List.mem_cons_of_mem _ (List.mem_append_right _ h)) (hB j)
  · have e : datF (ms ++ [⟨mf, mt, d, B1, c3, msp⟩]) = datF ms ++ blk B1 := by simp [datF]
    show (datF (ms ++ [⟨mf, mt, d, B1, c3, msp⟩])).Nodup
    rw [e]
    refine List.nodup_append.2 ⟨H.datF, blk_nodup _, fun a ha b hb hab => ?_⟩
    subst hab
    have h2 := (NetH.of_all H).lt a (List.mem_cons_of_mem _ (List.mem_append_right _ ha))
    have := hB a hb
    omega
theorem lays_none (h : NetA w0 w gn l rs) (hl : l.length = 1024) (mf mt : Int) (B : Option Addr) (n c2 : Nat) (msp : Bool) :
    Calls Try.prog 24 #[.pointer (some ⟨gn, 0, none⟩), .agg #[.int .i64 mf, .int .i64 mt, .slice B n c2, .bool msp]] w fun e w' => e = .returned (.bool false) ∧ NetA w0 w' gn l rs ∧ w.heap.size ≤ w'.heap.size := by
  obtain ⟨A, c, ms, rfl, H⟩ := h
  rw [List.length_map] at hl
  refine (lays_full w0 w gn A c ms (NetH.of_all H) (by omega) (by omega) mf mt B n c2 msp).mono ?_
  rintro e w1 ⟨rfl, hc⟩
  exact ⟨rfl, ⟨A, c, ms, rfl, H.quiet hc⟩, hc.size⟩
theorem datF_erase {ms : List UdV} {i : Nat} {mi : UdV} (hi : ms[i]? = some mi) : (datF ms).Perm (datF (ms.eraseIdx i) ++ blk mi.A) := by
  have h := perm_front ms i mi hi
  have h2 : (datF ms).Perm (datF (mi :: ms.eraseIdx i)) := (h.map fun (m : UdV) => blk m.A).flatten
  refine h2.trans ?_
  show (blk mi.A ++ datF (ms.eraseIdx i)).Perm _
  exact List.perm_append_comm
theorem takes_all (h : NetA w0 w gn l rs) (hl : l.length ≤ 1024) (hp : 0 < l.length) (p : Int) (i : Nat) (hpi : pickN p l.length = i) (m : MV) (hm : l[i]? = some m) :
    Calls Try.prog 25 #[.pointer (some ⟨gn, 0, none⟩), .int .i64 p] w fun e w' => ∃ B c2, e = .returned (.tuple #[.agg #[.int .i64 m.f, .int .i64 m.t, .slice B m.d.length c2, .bool m.sp], .bool true]) ∧ (B = none → c2 = 0) ∧ NetA w0 w' gn (l.eraseIdx i) (rRow 0 5 B m.d.length c2 (cB m.d) :: rs) ∧ w.heap.size ≤ w'.heap.size := by
  obtain ⟨A, c, ms, rfl, H⟩ := h
  rw [List.length_map] at hl hp hpi
  rw [List.getElem?_map] at hm
  obtain ⟨mi, hmi, rfl⟩ := Option.map_eq_some_iff.1 hm
  refine (takes_yes w0 w gn A c ms (NetH.of_all H) hl hp p i hpi mi hmi).mono ?_
  rintro e w1 ⟨rfl, ⟨c1, h1⟩, ho, hc⟩
  have hpm := datF_erase hmi
  have hnd : (netF gn A ms).Nodup := (NetH.of_all H).nodup H.datF
  have hpm2 : (netF gn A ms).Perm (netF gn A (ms.eraseIdx i) ++ blk mi.A) := by
    unfold netF
    rw [List.cons_append, List.append_assoc]
    exact (hpm.append_left _).cons _
  have hc' : Chg (netF gn A ms) w w1 := hc.mono (fun j hj => .inl (by
    rcases List.mem_cons.1 hj with rfl | hj
    · exact List.mem_cons_self
    · exact List.mem_cons_of_mem _ (List.mem_append_left _ hj)))
  have ho0 := own_base (base' := 0) ho (fun _ _ => Nat.zero_le _)
  have h2 := H.head hc' ⟨netF gn A (ms.eraseIdx i) ++ blk mi.A, fun w => NetP gn A c1 (ms.eraseIdx i) w ∧ w.ownsRow 0 5 1 (.slice mi.A mi.d.length mi.cp) mi.d.length (cB mi.d)⟩
    (fun b hb => ⟨.inl (hpm2.mem_iff.2 hb), by
      rcases List.mem_append.1 hb with hb | hb
      · exact h1.lt b hb
      · exact (own_in ho b hb).2⟩) (hpm2.nodup_iff.1 hnd) ⟨h1.p, ho0⟩ (stable_and (rNet_stable w0 gn A c1 (ms.eraseIdx i)) (rRow_stable w0 0 5 mi.A mi.d.length mi.cp (cB mi.d)))
  have h3 := h2.split (rNet_stable w0 gn A c1 (ms.eraseIdx i)) (rRow_stable w0 0 5 mi.A mi.d.length mi.cp (cB mi.d))
  refine ⟨mi.A, mi.cp, rfl, fun hA => ?_, ⟨A, c1, ms.eraseIdx i, ?_, h3⟩, hc.size⟩
  · rcases ho.2 with ⟨h4, _⟩ | ⟨g, cap, cur, h4, _⟩
    · injection h4
    · injection h4 with h4; rw [hA] at h4; cases h4
  · rw [List.eraseIdx_eq_take_drop_succ, List.eraseIdx_eq_take_drop_succ, List.map_append, List.map_take, List.map_drop]
end
end Go.Proofs.Ytbgdcplbekoemaa
