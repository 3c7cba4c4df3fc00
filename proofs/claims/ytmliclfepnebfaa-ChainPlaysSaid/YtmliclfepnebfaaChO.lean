
/-
  chain: Get, Trim.
-/
import Derived.Test.YtmliclfepnebfaaChN
namespace Go.Proofs.Ytmliclfepnebfaa
open Go.RowKit
set_option linter.unusedVariables false
set_option linter.unusedSimpArgs false
def getB (l : List VV) (s : St) : Bool := atB l s && seenV (atX l s) s
def getD (l : List VV) (s : St) : List UInt8 := if getB l s then (atX l s).d else []
/-- Bytes as an answer, of their own. -/
def GetPost (d : List UInt8) (b : Bool) (w : World) (e : Ending) (w' : World) : Prop :=
  ∃ A c, e = .returned (.tuple #[.slice A d.length c, .bool b]) ∧ w'.ownsRow w.heap.size 5 1 (.slice A d.length c) d.length (cB d) ∧ Chg [] w w'
/-- The versions of a chain are versions. -/
def Valid (l : List VV) : Prop := ∀ v ∈ l, isVV v = true
theorem Valid.at_ {ms : List VrV} (h : Valid (ms.map VrV.v)) {m : VrV} (hm : m ∈ ms) : IsVV m.v := isVV_iff.1 (h _ (List.mem_map_of_mem hm))
theorem IsVV.m0 {v : VV} (h : IsVV v) : 0 ≤ v.m ∧ v.m ≤ 281474976710655 := by have := isS_iff.1 h.s; omega
theorem atX_mem {l : List VV} {s : St} (h : atB l s = true) : atX l s ∈ l := by
  have h0 : 0 < uptoV l s := of_decide_eq_true h
  have := uptoV_le l s
  unfold atX atV
  rw [if_neg (by omega), List.getD_eq_getElem?_getD, List.getElem?_eq_getElem (by omega)]
  exact List.getElem_mem _
set_option maxRecDepth 100000 in
set_option maxHeartbeats 6400000 in
theorem getC_raw (w : World) (gn : Nat) (A : Option Addr) (c : Nat) (ms : List VrV) (H : ChP 65 gn A c ms w) (hn : ms.length ≤ 1000000) (hV : Valid (ms.map VrV.v)) (sm sc : Int) (hs : sm ≤ 9223372036854775807) :
    Calls Try.prog 23 #[.pointer (some ⟨gn, 0, none⟩), .agg #[.int .i64 sm, .int .i64 sc]] w (GetPost (getD (ms.map VrV.v) ⟨sm, sc⟩) (getB (ms.map VrV.v) ⟨sm, sc⟩) w) := by
  have HX := Lib.hid (At.new w 25 #[.int .i64 sm, .int .i64 sc])
  have HQ := Lib.hid ((Chg.refl [] w).alloc (.cells #[.int .i64 sm, .int .i64 sc] 25))
  have HH := Lib.hid (H.keep HQ.out)
  have HAT := Lib.hid (atC_raw _ gn A c ms HH.out hn sm sc (fun m hm => by have := (hV.at_ hm).d; exact Nat.le_trans this (by decide)))
  have HM : Hid (atB (ms.map VrV.v) ⟨sm, sc⟩ = true → 0 ≤ (atX (ms.map VrV.v) ⟨sm, sc⟩).m ∧ (atX (ms.map VrV.v) ⟨sm, sc⟩).m ≤ 281474976710655) := fun h => (isVV_iff.1 (hV _ (atX_mem h))).m0
  have HG : Hid (getB (ms.map VrV.v) ⟨sm, sc⟩ = (atB (ms.map VrV.v) ⟨sm, sc⟩ && seenV (atX (ms.map VrV.v) ⟨sm, sc⟩) ⟨sm, sc⟩)) := rfl
  have HD : Hid (getD (ms.map VrV.v) ⟨sm, sc⟩ = if getB (ms.map VrV.v) ⟨sm, sc⟩ then (atX (ms.map VrV.v) ⟨sm, sc⟩).d else []) := rfl
  generalize getD (ms.map VrV.v) ⟨sm, sc⟩ = dx at *
  generalize getB (ms.map VrV.v) ⟨sm, sc⟩ = gb at *
  generalize atX (ms.map VrV.v) ⟨sm, sc⟩ = vx at *
  generalize atB (ms.map VrV.v) ⟨sm, sc⟩ = b at *
  have x0 := HX.out.cell 0
  have x1 := HX.out.cell 1
  go_enter Try.func23, Try.ntmps23
  go_wp2_with (fail)
  generalize hwz : w.alloc (.cells #[.int .i64 sm, .int .i64 sc] 25) = wz at *
  generalize hgs : w.heap.size = gs at *
  refine HAT.out.mono ?_
  rintro e w1 ⟨A5, c5, rfl, hown, hc1⟩
  clear HAT x0 x1
  obtain ⟨m, q, o, d, g, t⟩ := vx
  simp only [VV.cells] at hown HM HD ⊢
  have HX1 := HX.out.keep hc1 (by simp)
  have HC1 := Lib.hid (HQ.out.trans hc1 (by simp))
  have HO := Lib.hid hown
  have HZ1 := Lib.hid (At.new w1 28 #[.int .i64 0, .int .i64 0, .int .i64 0, .slice none 0 0, .bool false, .int .i64 0])
  have x0 := (HX1.al (.cells #[.int .i64 0, .int .i64 0, .int .i64 0, .slice none 0 0, .bool false, .int .i64 0] 28)).cell 0
  have x1 := (HX1.al (.cells #[.int .i64 0, .int .i64 0, .int .i64 0, .slice none 0 0, .bool false, .int .i64 0] 28)).cell 1
  have u0 := HZ1.out.cell 0
  have u1 := HZ1.out.cell 1
  have u2 := HZ1.out.cell 2
  have u3 := HZ1.out.cell 3
  have u4 := HZ1.out.cell 4
  have u5 := HZ1.out.cell 5
  have fu0 := HZ1.out.free 0
  have fu1 := HZ1.out.free 1
  have fu2 := HZ1.out.free 2
  have fu3 := HZ1.out.free 3
  have fu4 := HZ1.out.free 4
  have fu5 := HZ1.out.free 5
  simp only [List.getElem?_toArray, List.getElem?_cons_zero, List.getElem?_cons_succ] at u0 u1 u2 u3 u4 u5 x0 x1
  have hgs1 : gs < w1.heap.size := by have := HX1.lt; exact this
  have HZ2 := Lib.hid (At.new w1 28 #[.int .i64 m, .int .i64 q, .int .i64 o, .slice A5 d.length c5, .bool g, .int .i64 t])
  have HX2 := Lib.hid (HX1.al (.cells #[.int .i64 m, .int .i64 q, .int .i64 o, .slice A5 d.length c5, .bool g, .int .i64 t] 28))
  have HC2 : Hid (Chg [] w (w1.alloc (.cells #[.int .i64 m, .int .i64 q, .int .i64 o, .slice A5 d.length c5, .bool g, .int .i64 t] 28))) := HC1.out.alloc _
  have HO2 : Hid (((w1.alloc (.cells #[.int .i64 m, .int .i64 q, .int .i64 o, .slice A5 d.length c5, .bool g, .int .i64 t] 28))).ownsRow gs 5 1 (.slice A5 d.length c5) d.length (cB d)) := own_up (own_keep HO.out ((Chg.refl [] w1).alloc _) (fun _ _ hm => by simp at hm)) (by have := HQ.out.size; omega)
  clear HX1 HO hc1 HX HH HQ
  go_upto_region 2 with (fail)
  generalize (w1.alloc (.cells #[.int .i64 m, .int .i64 q, .int .i64 o, .slice A5 d.length c5, .bool g, .int .i64 t] 28)) = w2 at *
  generalize w1.heap.size = g6 at *
  clear u0 u1 u2 u3 u4 u5 fu0 fu1 fu2 fu3 fu4 fu5 x0 x1 HZ1
  have x0 := HX2.out.cell 0
  have x1 := HX2.out.cell 1
  have u0 := HZ2.out.cell 0
  have u1 := HZ2.out.cell 1
  have u2 := HZ2.out.cell 2
  have u3 := HZ2.out.cell 3
  have u4 := HZ2.out.cell 4
  have u5 := HZ2.out.cell 5
  simp only [List.getElem?_toArray, List.getElem?_cons_zero, List.getElem?_cons_succ] at u0 u1 u2 u3 u4 u5 x0 x1
  cases b
  · obtain rfl : gb = false := HG.out
    obtain rfl : dx = [] := HD.out
    go_wp2_with (fail)
    go_ret2
    exact ⟨none, 0, rfl, World.ownsRow_nil _ _ _ _, HC2.out⟩
  · have hM := HM.out rfl
    obtain ⟨s, HS⟩ : ∃ s, Hid (seenV ⟨m, q, o, d, g, t⟩ ⟨sm, sc⟩ = s) := ⟨_, Lib.hid rfl⟩
    have HSE := Lib.hid (fun w => chSeen_any w m q o A5 d.length c5 g t sm sc hM.1 hM.2 hs d)
    rw [HS.out] at HSE HG
    go_wp2_with (fail)
    refine (HSE.out _).mono ?_
    rintro e w3 ⟨rfl, hc3⟩
    have y3 := (HZ2.out.keep hc3 (by simp)).cell 3
    simp only [List.getElem?_toArray, List.getElem?_cons_zero, List.getElem?_cons_succ] at y3
    have HC3 := Lib.hid (HC2.out.trans hc3 (by simp))
    have HO3 := Lib.hid (own_k0 HO2.out hc3)
    clear HSE HC2 HO2 HX2 HZ2 x0 x1 u0 u1 u2 u3 u4 u5 hc3
    cases s
    · obtain rfl : gb = false := HG.out
      obtain rfl : dx = [] := HD.out
      go_wp2_with (fail)
      go_ret2
      exact ⟨none, 0, rfl, World.ownsRow_nil _ _ _ _, HC3.out⟩
    · obtain rfl : gb = true := HG.out
      obtain rfl : dx = d := HD.out
      go_wp2_with (fail)
      go_ret2
      exact ⟨A5, c5, rfl, by rw [hgs]; exact HO3.out, HC3.out⟩
end Go.Proofs.Ytmliclfepnebfaa
