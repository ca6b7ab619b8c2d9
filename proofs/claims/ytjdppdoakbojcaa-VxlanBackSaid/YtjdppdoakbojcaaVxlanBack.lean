/- The statement VxlanBack is true: the law answers true for every packet and all bytes, by contracts of the functions that it calls. No conditions. -/
import Derived.Test.YtjdppdoakbojcaaRows
import Derived.WalkKit
import Derived.ProofKit
import Derived.OpenShut
import Derived.KernelRfl
import Derived.Test.YtjdppdoakbojcaaNr
namespace Go.Proofs.Ytjdppdoakbojcaa.vxlanBack
open Go.ChangeShapes Go.WideShapes Go.ChangeAt Go.RowKit
set_option linter.unusedVariables false
theorem own : ownKnob Try.prog.godebug = none := by kernel_rfl
theorem laidOut : laidOutB Try.prog = true := by kernel_rfl
theorem rec33 : Try.prog.readableRec 33 = true ∧ 33 < Try.prog.types.size := ⟨by kernel_rfl, of_decide_eq_true (by kernel_rfl)⟩
theorem rec34 : Try.prog.readableRec 34 = true ∧ 34 < Try.prog.types.size := ⟨by kernel_rfl, of_decide_eq_true (by kernel_rfl)⟩
set_option maxRecDepth 100000 in
set_option maxHeartbeats 1000000 in
theorem lifted (os : Os) (started : os.Started) (H : Type) (enc : TypeId × Value → H) :
    ReturnsInHanded {} Try.checked os 7 .any (Rows.vxlanBackSpec.pre6 enc Try.prog Try.f7 Rows.vxlanBackRow.domain false) (Rows.vxlanBackSpec.post enc Try.prog Try.f7 false true false false) := by
  refine returnsInHanded_of_change (C := Try.checked) own started (by kernel_rfl) Try.func7
    (ChangeSpec.witness6 (enc := enc) (C := Try.checked) false ⟨#[], #[.agg #[.int .u32 0, .int .u32 0, .int .i64 0, .int .i64 0, .int .u32 0, .int .u32 0, .int .u64 0, .int .u64 0, .int .i64 0, .int .i64 0, .int .u64 0, .int .u32 0, .int .u64 0, .int .u32 0, .int .u32 0, .int .u32 0, .int .i64 0, .int .i64 0, .int .i64 0, .int .i64 0, .int .u64 0], .slice none 0 0], []⟩ 12 (by kernel_rfl) (by kernel_rfl) (by kernel_rfl) (by kernel_rfl)) ?_
  intro W base args ds gs before hval0 hW hcnd _
  have hval : ∀ (j : Nat) t v, Try.f7.params[j]? = some t → args[j]? = some v → Value.okWide Try.prog W .any base t v := hval0
  have hW' := hW
  have hlt := hW.lt
  obtain ⟨p, q, hA0, hV, rfl, hfz, hnd⟩ := hW
  have hA : DataW.TrodAll enc Try.prog W 0 (fun _ => true) true Try.f7.params.toList args.toList ds p := hA0
  rw [Try.params7] at hA hval
  have hAll := hA
  obtain ⟨v0, vs0, d0, ds0, p0, q0, hargs, rfl, rfl, h0, r0⟩ := trodAll_cons hA
  obtain ⟨v1, vs1, d1, ds1, p1, q1, rfl, rfl, rfl, h1, r1⟩ := trodAll_cons r0
  obtain ⟨rfl, rfl, rfl⟩ := trodAll_nil r1
  obtain rfl : args = #[v0, v1] := by cases args; simp_all
  obtain ⟨rfl, rfl⟩ := trodVars_none hV
  obtain ⟨c0, rfl, _⟩ := okWide_struct Try.underlying33 (hval 0 33 v0 rfl rfl)
  obtain ⟨f0, t0⟩ := h0
  obtain ⟨_, x0, e0, w0⟩ := Abs.read33 (hs := W.heap.size) t0
  obtain ⟨a1, n1, c1, rfl⟩ := okWide_slice Try.underlying34 (hval 1 34 v1 rfl rfl)
  obtain ⟨f1, t1⟩ := h1
  obtain ⟨ad1, cap1, x1, e1, l1, m1, ha1, w1⟩ := Abs.arr_read (C := Abs.cx (W.heap.size + 1) (Abs.oldW W)) (k := 1) (en := Abs.encY) rfl (fun _ => rfl) Try.underlying34 (by kernel_rfl) (by decide) (fun cs m y h => Abs.u8_read h) ⟨_, _, t1⟩
  clear hA0 hval0
  simp only [List.append_nil] at hW' hlt hAll
  letI : Abs.Tok := ⟨fun _ => none⟩
  have hold : ∀ b, (Abs.cx (W.heap.size + 1) (Abs.oldW W)).old b = Abs.oldW W b := fun _ => rfl
  have nr : ∀ cs : List Value, Abs.VRs (Abs.φold (Abs.cx (W.heap.size + 1) (Abs.oldW W))) (W.heap.size + 2) (cs.map (Abs.normV W.heap.size)) cs := Abs.normV_rels (by omega) (Abs.φold_hs hold) (fun b l h => (Abs.φold_blk hold b l h).1)
  have n1 : ∀ v : Value, Abs.VR (Abs.φold (Abs.cx (W.heap.size + 1) (Abs.oldW W))) (W.heap.size + 2) (Abs.normV W.heap.size v) v := Abs.normV_rel (by omega) (Abs.φold_hs hold) (fun b l h => (Abs.φold_blk hold b l h).1)
  have hct := Abs.vlaw7_ct (c := cap1) (B0 := W.heap.size + 1) (old := Abs.oldW W) (n := 60) (H := []) (Q := fun v _ => v = .bool true) x0 w0 ha1.toW l1 (Abs.lt_EL m1) w1 (Abs.le_i64 l1 m1) (fun _ => rfl)
  refine (Abs.top (C := Abs.cx (W.heap.size + 1) (Abs.oldW W)) rfl hold (Abs.extOk _ _) (args := [.agg ⟨Abs.en33 x0⟩, .slice ad1 x1.length cap1]) (args' := [_, _]) (.cons _ _ _ _ (.agg _ _ (by rw [← e0]; exact nr c0.toList)) (.cons _ _ _ _ (by rw [← e1]; exact n1 _) .nil)) hct).mono ?_
  rintro e W' ⟨he, hg, hh⟩
  subst he
  exact ⟨_, rfl, post_of_same (pa := _) (pv := []) hW' (fun _ _ _ => (trodAll_cons_mk (shut_bool Try.underlying4 _) trodAll_mk0))
    (fun sp hsp => Abs.again laidOut hh (by intro t ht; rw [Try.params7] at ht; simp only [List.mem_cons, List.not_mem_nil, or_false] at ht; rcases ht with rfl | rfl <;> first | exact rec33 | exact rec34) hAll hlt hsp) (fun _ _ => rfl) (by first | rfl | simp)
    (hg.frame _) hg.2.1 (ok_one (by kernel_rfl) rfl (okWide_bool_mk Try.underlying4 _))⟩
/-! The closed facts of the row, one after the other (each needs much memory). -/
theorem fEnter : Try.pinned.checked.prog.mayEnter = true := by kernel_rfl
theorem fMake : (Try.pinned.checked.prog.make == some Rows.vxlanBackRow.make) = true := by kernel_rfl
theorem fLift : (Rows.vxlanBackRow.lifted == Try.pinned.checked.prog.liftsFinal) = true := by kernel_rfl
theorem facts : joinedFacts Try.pinned.checked.prog 7 Try.f7 Rows.vxlanBackSpec Rows.vxlanBackRow = true := by
  unfold joinedFacts
  repeat' (first | with_reducible exact fEnter | with_reducible exact fMake | with_reducible exact fLift | with_reducible refine Bool.and_eq_true_iff.2 ⟨?_, ?_⟩)
  all_goals kernel_rfl
theorem over : Rows.vxlanBackRow.holds Try.pinned (OpenSpec.ofChange Rows.vxlanBackSpec) :=
  OpenClaim.holds_of_wide 7 Try.f7 rfl rfl rfl rfl rfl rfl rfl ⟨rfl, rfl, rfl, rfl, rfl⟩ rfl rfl rfl rfl rfl (by kernel_rfl) Try.func7 facts
    (of_decide_eq_true (by kernel_rfl)) (by unfold Func.isWrapper; first | (rw [if_pos (by decide +kernel)]; kernel_rfl) | (rw [if_neg (by decide +kernel)]; exact ⟨rfl, rfl⟩))
    (fun os started H enc _ => lifted os started H enc)
theorem proved : Rows.VxlanBackSaid := over
#print axioms proved
end Go.Proofs.Ytjdppdoakbojcaa.vxlanBack

