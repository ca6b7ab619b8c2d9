/- The statement VxlanChanges is true: the law answers true for every packet, every place and every byte, by contracts of the functions that it calls. No conditions. -/
import Derived.Test.YtjdppdoakbojcaaRows
import Derived.WalkKit
import Derived.ProofKit
import Derived.OpenShut
import Derived.KernelRfl
import Derived.Test.YtjdppdoakbojcaaNs
namespace Go.Proofs.Ytjdppdoakbojcaa.vxlanChanges
open Go.ChangeShapes Go.WideShapes Go.ChangeAt Go.RowKit
set_option linter.unusedVariables false
theorem own : ownKnob Try.prog.godebug = none := by kernel_rfl
theorem laidOut : laidOutB Try.prog = true := by kernel_rfl
theorem rec3 : Try.prog.readableRec 3 = true ∧ 3 < Try.prog.types.size := ⟨by kernel_rfl, of_decide_eq_true (by kernel_rfl)⟩
theorem rec33 : Try.prog.readableRec 33 = true ∧ 33 < Try.prog.types.size := ⟨by kernel_rfl, of_decide_eq_true (by kernel_rfl)⟩
theorem rec5 : Try.prog.readableRec 5 = true ∧ 5 < Try.prog.types.size := ⟨by kernel_rfl, of_decide_eq_true (by kernel_rfl)⟩
set_option maxRecDepth 100000 in
set_option maxHeartbeats 1000000 in
theorem lifted (os : Os) (started : os.Started) (H : Type) (enc : TypeId × Value → H) :
    ReturnsInHanded {} Try.checked os 8 .any (Rows.vxlanChangesSpec.pre6 enc Try.prog Try.f8 Rows.vxlanChangesRow.domain false) (Rows.vxlanChangesSpec.post enc Try.prog Try.f8 false true false false) := by
  refine returnsInHanded_of_change (C := Try.checked) own started (by kernel_rfl) Try.func8
    (ChangeSpec.witness6 (enc := enc) (C := Try.checked) false ⟨#[], #[.agg #[.int .u32 0, .int .u32 0, .int .i64 0, .int .i64 0, .int .u32 0, .int .u32 0, .int .u64 0, .int .u64 0, .int .i64 0, .int .i64 0, .int .u64 0, .int .u32 0, .int .u64 0, .int .u32 0, .int .u32 0, .int .u32 0, .int .i64 0, .int .i64 0, .int .i64 0, .int .i64 0, .int .u64 0], .int .i64 0, .int .u8 0], []⟩ 12 (by kernel_rfl) (by kernel_rfl) (by kernel_rfl) (by kernel_rfl)) ?_
  intro W base args ds gs before hval0 hW hcnd _
  have hval : ∀ (j : Nat) t v, Try.f8.params[j]? = some t → args[j]? = some v → Value.okWide Try.prog W .any base t v := hval0
  have hW' := hW
  have hlt := hW.lt
  obtain ⟨p, q, hA0, hV, rfl, hfz, hnd⟩ := hW
  have hA : DataW.TrodAll enc Try.prog W 0 (fun _ => true) true Try.f8.params.toList args.toList ds p := hA0
  rw [Try.params8] at hA hval
  have hAll := hA
  obtain ⟨v0, vs0, d0, ds0, p0, q0, hargs, rfl, rfl, h0, r0⟩ := trodAll_cons hA
  obtain ⟨v1, vs1, d1, ds1, p1, q1, rfl, rfl, rfl, h1, r1⟩ := trodAll_cons r0
  obtain ⟨v2, vs2, d2, ds2, p2, q2, rfl, rfl, rfl, h2, r2⟩ := trodAll_cons r1
  obtain ⟨rfl, rfl, rfl⟩ := trodAll_nil r2
  obtain rfl : args = #[v0, v1, v2] := by cases args; simp_all
  obtain ⟨rfl, rfl⟩ := trodVars_none hV
  obtain ⟨c0, rfl, _⟩ := okWide_struct Try.underlying33 (hval 0 33 v0 rfl rfl)
  obtain ⟨f0, t0⟩ := h0
  obtain ⟨_, x0, e0, w0⟩ := Abs.read33 (hs := W.heap.size) t0
  obtain ⟨x1, rfl, rfl, rfl, w1⟩ := open_int Try.underlying3 (hval 1 3 v1 rfl rfl) h1
  obtain ⟨x2, rfl, rfl, rfl, w2⟩ := open_int Try.underlying5 (hval 2 5 v2 rfl rfl) h2
  clear hA0 hval0
  simp only [List.append_nil] at hW' hlt hAll
  letI : Abs.Tok := ⟨fun _ => none⟩
  have hold : ∀ b, (Abs.cx (W.heap.size + 1) (Abs.oldW W)).old b = Abs.oldW W b := fun _ => rfl
  have nr : ∀ cs : List Value, Abs.VRs (Abs.φold (Abs.cx (W.heap.size + 1) (Abs.oldW W))) (W.heap.size + 2) (cs.map (Abs.normV W.heap.size)) cs := Abs.normV_rels (by omega) (Abs.φold_hs hold) (fun b l h => (Abs.φold_blk hold b l h).1)
  have n1 : ∀ v : Value, Abs.VR (Abs.φold (Abs.cx (W.heap.size + 1) (Abs.oldW W))) (W.heap.size + 2) (Abs.normV W.heap.size v) v := Abs.normV_rel (by omega) (Abs.φold_hs hold) (fun b l h => (Abs.φold_blk hold b l h).1)
  have hct := Abs.vlaw8_ct (B0 := W.heap.size + 1) (old := Abs.oldW W) (n := 60) (H := []) (Q := fun v _ => v = .bool true) x0 w0 x1 x2 (Abs.wf_i64 w1) (Abs.isY_wf w2) (fun _ => rfl)
  refine (Abs.top (C := Abs.cx (W.heap.size + 1) (Abs.oldW W)) rfl hold (Abs.extOk _ _) (args := [.agg ⟨Abs.en33 x0⟩, .int .i64 x1, .int .u8 x2]) (args' := [_, _, _]) (.cons _ _ _ _ (.agg _ _ (by rw [← e0]; exact nr c0.toList)) (.cons _ _ _ _ (.int _ _) (.cons _ _ _ _ (.int _ _) .nil))) hct).mono ?_
  rintro e W' ⟨he, hg, hh⟩
  subst he
  exact ⟨_, rfl, post_of_same (pa := _) (pv := []) hW' (fun _ _ _ => (trodAll_cons_mk (shut_bool Try.underlying4 _) trodAll_mk0))
    (fun sp hsp => Abs.again laidOut hh (by intro t ht; rw [Try.params8] at ht; simp only [List.mem_cons, List.not_mem_nil, or_false] at ht; rcases ht with rfl | rfl | rfl <;> first | exact rec3 | exact rec33 | exact rec5) hAll hlt hsp) (fun _ _ => rfl) (by first | rfl | simp)
    (hg.frame _) hg.2.1 (ok_one (by kernel_rfl) rfl (okWide_bool_mk Try.underlying4 _))⟩
/-! The closed facts of the row, one after the other (each needs much memory). -/
theorem fEnter : Try.pinned.checked.prog.mayEnter = true := by kernel_rfl
theorem fMake : (Try.pinned.checked.prog.make == some Rows.vxlanChangesRow.make) = true := by kernel_rfl
theorem fLift : (Rows.vxlanChangesRow.lifted == Try.pinned.checked.prog.liftsFinal) = true := by kernel_rfl
theorem facts : joinedFacts Try.pinned.checked.prog 8 Try.f8 Rows.vxlanChangesSpec Rows.vxlanChangesRow = true := by
  unfold joinedFacts
  repeat' (first | with_reducible exact fEnter | with_reducible exact fMake | with_reducible exact fLift | with_reducible refine Bool.and_eq_true_iff.2 ⟨?_, ?_⟩)
  all_goals kernel_rfl
theorem over : Rows.vxlanChangesRow.holds Try.pinned (OpenSpec.ofChange Rows.vxlanChangesSpec) :=
  OpenClaim.holds_of_wide 8 Try.f8 rfl rfl rfl rfl rfl rfl rfl ⟨rfl, rfl, rfl, rfl, rfl⟩ rfl rfl rfl rfl rfl (by kernel_rfl) Try.func8 facts
    (of_decide_eq_true (by kernel_rfl)) (by unfold Func.isWrapper; first | (rw [if_pos (by decide +kernel)]; kernel_rfl) | (rw [if_neg (by decide +kernel)]; exact ⟨rfl, rfl⟩))
    (fun os started H enc _ => lifted os started H enc)
theorem proved : Rows.VxlanChangesSaid := over
#print axioms proved
end Go.Proofs.Ytjdppdoakbojcaa.vxlanChanges

