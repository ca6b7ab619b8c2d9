/- The statement MobilityRaces is true: the law answers true for all arguments, by contracts of the functions that it calls. No conditions. -/
import Derived.Test.YtoimfchhmocgeaaRows
import Derived.WalkKit
import Derived.ProofKit
import Derived.OpenShut
import Derived.KernelRfl
import Derived.Test.YtoimfchhmocgeaaQs
namespace Go.Proofs.Ytoimfchhmocgeaa.mobilityRaces
open Go.ChangeShapes Go.WideShapes Go.ChangeAt Go.RowKit
set_option linter.unusedVariables false
theorem own : ownKnob Try.prog.godebug = none := by kernel_rfl
theorem laidOut : laidOutB Try.prog = true := by kernel_rfl
theorem rec4 : Try.prog.readableRec 4 = true ∧ 4 < Try.prog.types.size := ⟨by kernel_rfl, of_decide_eq_true (by kernel_rfl)⟩
theorem rec62 : Try.prog.readableRec 62 = true ∧ 62 < Try.prog.types.size := ⟨by kernel_rfl, of_decide_eq_true (by kernel_rfl)⟩
theorem rec69 : Try.prog.readableRec 69 = true ∧ 69 < Try.prog.types.size := ⟨by kernel_rfl, of_decide_eq_true (by kernel_rfl)⟩
set_option maxRecDepth 100000 in
set_option maxHeartbeats 1000000 in
theorem lifted (os : Os) (started : os.Started) (H : Type) (enc : TypeId × Value → H) :
    ReturnsInHanded {} Try.checked os 7 .any (Rows.mobilityRacesSpec.pre6 enc Try.prog Try.f7 Rows.mobilityRacesRow.domain false) (Rows.mobilityRacesSpec.post enc Try.prog Try.f7 false true false false) := by
  refine returnsInHanded_of_change (C := Try.checked) own started (by kernel_rfl) Try.func7
    (ChangeSpec.witness6 (enc := enc) (C := Try.checked) false ⟨#[], #[.slice none 0 0, .bool false, .slice none 0 0], []⟩ 12 (by kernel_rfl) (by kernel_rfl) (by kernel_rfl) (by kernel_rfl)) ?_
  intro W base args ds gs before hval0 hW hcnd _
  have hval : ∀ (j : Nat) t v, Try.f7.params[j]? = some t → args[j]? = some v → Value.okWide Try.prog W .any base t v := hval0
  have hW' := hW
  have hlt := hW.lt
  obtain ⟨p, q, hA0, hV, rfl, hfz, hnd⟩ := hW
  have hA : DataW.TrodAll enc Try.prog W 0 (fun _ => true) true Try.f7.params.toList args.toList ds p := hA0
  rw [Try.params7] at hA hval
  have hAll := hA
  obtain ⟨v0, vs0, d0, ds0, p0, q0, hargs, rfl, rfl, h0, r0⟩ := trodAll_cons hA
  obtain ⟨v1, vs1, d1, ds1, p1, q1, rfl, rfl, rfl, h1, r1⟩ := trodAll_cons r0
  obtain ⟨v2, vs2, d2, ds2, p2, q2, rfl, rfl, rfl, h2, r2⟩ := trodAll_cons r1
  obtain ⟨rfl, rfl, rfl⟩ := trodAll_nil r2
  obtain rfl : args = #[v0, v1, v2] := by cases args; simp_all
  obtain ⟨rfl, rfl⟩ := trodVars_none hV
  obtain ⟨a0, n0, c0, rfl⟩ := okWide_slice Try.underlying69 (hval 0 69 v0 rfl rfl)
  obtain ⟨f0, t0⟩ := h0
  obtain ⟨ad0, cap0, x0, e0, l0, m0, ha0, w0⟩ := Abs.arr_read (C := Abs.cx (W.heap.size + 1) (Abs.oldW W)) (k := 1) (en := Abs.enB4) rfl (fun _ => rfl) Try.underlying69 (by kernel_rfl) (by decide) (fun cs m y h => Abs.b4_read h) ⟨_, _, t0⟩
  obtain ⟨x1, rfl, rfl, rfl⟩ := open_bool Try.underlying4 (hval 1 4 v1 rfl rfl) h1
  obtain ⟨a2, n2, c2, rfl⟩ := okWide_slice Try.underlying62 (hval 2 62 v2 rfl rfl)
  obtain ⟨f2, t2⟩ := h2
  obtain ⟨ad2, cap2, x2, e2, l2, m2, ha2, w2⟩ := Abs.arr_read (C := Abs.cx (W.heap.size + 1) (Abs.oldW W)) (k := 1) (en := Abs.enI) rfl (fun _ => rfl) Try.underlying62 (by kernel_rfl) (by decide) (fun cs m y h => Abs.i64_read h) ⟨_, _, t2⟩
  clear hA0 hval0
  simp only [List.append_nil] at hW' hlt hAll
  letI : Abs.Tok := ⟨fun _ => none⟩
  have hold : ∀ b, (Abs.cx (W.heap.size + 1) (Abs.oldW W)).old b = Abs.oldW W b := fun _ => rfl
  have nr : ∀ cs : List Value, Abs.VRs (Abs.φold (Abs.cx (W.heap.size + 1) (Abs.oldW W))) (W.heap.size + 2) (cs.map (Abs.normV W.heap.size)) cs := Abs.normV_rels (by omega) (Abs.φold_hs hold) (fun b l h => (Abs.φold_blk hold b l h).1)
  have n1 : ∀ v : Value, Abs.VR (Abs.φold (Abs.cx (W.heap.size + 1) (Abs.oldW W))) (W.heap.size + 2) (Abs.normV W.heap.size v) v := Abs.normV_rel (by omega) (Abs.φold_hs hold) (fun b l h => (Abs.φold_blk hold b l h).1)
  have hct := Abs.races7_ct (c := cap0) (c2 := cap2) (B0 := W.heap.size + 1) (old := Abs.oldW W) (n := 60) (H := []) (Q := fun v _ => v = .bool true) ha0 ha2 x1 (fun _ => rfl)
  refine (Abs.top (C := Abs.cx (W.heap.size + 1) (Abs.oldW W)) rfl hold (Abs.extOk _ _) (args := [.slice ad0 x0.length cap0, .bool x1, .slice ad2 x2.length cap2]) (args' := [_, _, _]) (.cons _ _ _ _ (by rw [← e0]; exact n1 _) (.cons _ _ _ _ (.bool _) (.cons _ _ _ _ (by rw [← e2]; exact n1 _) .nil))) hct).mono ?_
  rintro e W' ⟨he, hg, hh⟩
  subst he
  exact ⟨_, rfl, post_of_same (pa := _) (pv := []) hW' (fun _ _ _ => (trodAll_cons_mk (shut_bool Try.underlying4 _) trodAll_mk0))
    (fun sp hsp => Abs.again laidOut hh (by intro t ht; rw [Try.params7] at ht; simp only [List.mem_cons, List.not_mem_nil, or_false] at ht; rcases ht with rfl | rfl | rfl <;> first | exact rec4 | exact rec62 | exact rec69) hAll hlt hsp) (fun _ _ => rfl) (by first | rfl | simp)
    (hg.frame _) hg.2.1 (ok_one (by kernel_rfl) rfl (okWide_bool_mk Try.underlying4 _))⟩
theorem over : Rows.mobilityRacesRow.holds Try.pinned (OpenSpec.ofChange Rows.mobilityRacesSpec) :=
  OpenClaim.holds_of_wide 7 Try.f7 rfl rfl rfl rfl rfl rfl rfl ⟨rfl, rfl, rfl, rfl, rfl⟩ rfl rfl rfl rfl rfl (by kernel_rfl) Try.func7 (by kernel_rfl)
    (of_decide_eq_true (by kernel_rfl)) (by unfold Func.isWrapper; first | (rw [if_pos (by decide +kernel)]; kernel_rfl) | (rw [if_neg (by decide +kernel)]; exact ⟨rfl, rfl⟩))
    (fun os started H enc _ => lifted os started H enc)
theorem proved : Rows.MobilityRacesSaid := over
#print axioms proved
end Go.Proofs.Ytoimfchhmocgeaa.mobilityRaces

