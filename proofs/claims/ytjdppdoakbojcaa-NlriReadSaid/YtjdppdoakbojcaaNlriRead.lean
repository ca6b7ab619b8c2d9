/- The statement NlriRead is true: the law answers true for all bytes, by contracts of the functions that it calls. No conditions. -/
import Derived.Test.YtjdppdoakbojcaaRows
import Derived.WalkKit
import Derived.ProofKit
import Derived.OpenShut
import Derived.KernelRfl
import Derived.Test.YtjdppdoakbojcaaRd
namespace Go.Proofs.Ytjdppdoakbojcaa.nlriRead
open Go.ChangeShapes Go.WideShapes Go.ChangeAt Go.RowKit
set_option linter.unusedVariables false
theorem own : ownKnob Try.prog.godebug = none := by kernel_rfl
theorem laidOut : laidOutB Try.prog = true := by kernel_rfl
theorem rec34 : Try.prog.readableRec 34 = true ∧ 34 < Try.prog.types.size := ⟨by kernel_rfl, of_decide_eq_true (by kernel_rfl)⟩
set_option maxRecDepth 100000 in
set_option maxHeartbeats 1000000 in
theorem lifted (os : Os) (started : os.Started) (H : Type) (enc : TypeId × Value → H) :
    ReturnsInHanded {} Try.checked os 11 .any (Rows.nlriReadSpec.pre6 enc Try.prog Try.f11 Rows.nlriReadRow.domain false) (Rows.nlriReadSpec.post enc Try.prog Try.f11 false true false false) := by
  refine returnsInHanded_of_change (C := Try.checked) own started (by kernel_rfl) Try.func11
    (ChangeSpec.witness6 (enc := enc) (C := Try.checked) false ⟨#[], #[.slice none 0 0], []⟩ 12 (by kernel_rfl) (by kernel_rfl) (by kernel_rfl) (by kernel_rfl)) ?_
  intro W base args ds gs before hval0 hW hcnd _
  have hval : ∀ (j : Nat) t v, Try.f11.params[j]? = some t → args[j]? = some v → Value.okWide Try.prog W .any base t v := hval0
  have hW' := hW
  have hlt := hW.lt
  obtain ⟨p, q, hA0, hV, rfl, hfz, hnd⟩ := hW
  have hA : DataW.TrodAll enc Try.prog W 0 (fun _ => true) true Try.f11.params.toList args.toList ds p := hA0
  rw [Try.params11] at hA hval
  have hAll := hA
  obtain ⟨v0, vs0, d0, ds0, p0, q0, hargs, rfl, rfl, h0, r0⟩ := trodAll_cons hA
  obtain ⟨rfl, rfl, rfl⟩ := trodAll_nil r0
  obtain rfl : args = #[v0] := by cases args; simp_all
  obtain ⟨rfl, rfl⟩ := trodVars_none hV
  obtain ⟨a0, n0, c0, rfl⟩ := okWide_slice Try.underlying34 (hval 0 34 v0 rfl rfl)
  obtain ⟨f0, t0⟩ := h0
  obtain ⟨ad0, cap0, x0, e0, l0, m0, ha0, w0⟩ := Abs.arr_read (C := Abs.cx (W.heap.size + 1) (Abs.oldW W)) (k := 1) (en := Abs.encY) rfl (fun _ => rfl) Try.underlying34 (by kernel_rfl) (by decide) (fun cs m y h => Abs.u8_read h) ⟨_, _, t0⟩
  clear hA0 hval0
  simp only [List.append_nil] at hW' hlt hAll
  letI : Abs.Tok := ⟨fun _ => none⟩
  have hold : ∀ b, (Abs.cx (W.heap.size + 1) (Abs.oldW W)).old b = Abs.oldW W b := fun _ => rfl
  have nr : ∀ cs : List Value, Abs.VRs (Abs.φold (Abs.cx (W.heap.size + 1) (Abs.oldW W))) (W.heap.size + 2) (cs.map (Abs.normV W.heap.size)) cs := Abs.normV_rels (by omega) (Abs.φold_hs hold) (fun b l h => (Abs.φold_blk hold b l h).1)
  have n1 : ∀ v : Value, Abs.VR (Abs.φold (Abs.cx (W.heap.size + 1) (Abs.oldW W))) (W.heap.size + 2) (Abs.normV W.heap.size v) v := Abs.normV_rel (by omega) (Abs.φold_hs hold) (fun b l h => (Abs.φold_blk hold b l h).1)
  have hct := Abs.nread11_ct (c := cap0) (B0 := W.heap.size + 1) (old := Abs.oldW W) (n := 60) (H := []) (Q := fun v _ => v = .bool true) ha0.toW l0 (Abs.lt_EL m0) (Abs.normV_adr e0) w0 (fun _ => rfl)
  refine (Abs.top (C := Abs.cx (W.heap.size + 1) (Abs.oldW W)) rfl hold (Abs.extOk _ _) (args := [.slice ad0 x0.length cap0]) (args' := [_]) (.cons _ _ _ _ (by rw [← e0]; exact n1 _) .nil) hct).mono ?_
  rintro e W' ⟨he, hg, hh⟩
  subst he
  exact ⟨_, rfl, post_of_same (pa := _) (pv := []) hW' (fun _ _ _ => (trodAll_cons_mk (shut_bool Try.underlying4 _) trodAll_mk0))
    (fun sp hsp => Abs.again laidOut hh (by intro t ht; rw [Try.params11] at ht; simp only [List.mem_cons, List.not_mem_nil, or_false] at ht; rcases ht with rfl <;> first | exact rec34) hAll hlt hsp) (fun _ _ => rfl) (by first | rfl | simp)
    (hg.frame _) hg.2.1 (ok_one (by kernel_rfl) rfl (okWide_bool_mk Try.underlying4 _))⟩
/-! The closed facts of the row, one after the other (each needs much memory). -/
theorem fEnter : Try.pinned.checked.prog.mayEnter = true := by kernel_rfl
theorem fMake : (Try.pinned.checked.prog.make == some Rows.nlriReadRow.make) = true := by kernel_rfl
theorem fLift : (Rows.nlriReadRow.lifted == Try.pinned.checked.prog.liftsFinal) = true := by kernel_rfl
theorem facts : joinedFacts Try.pinned.checked.prog 11 Try.f11 Rows.nlriReadSpec Rows.nlriReadRow = true := by
  unfold joinedFacts
  repeat' (first | with_reducible exact fEnter | with_reducible exact fMake | with_reducible exact fLift | with_reducible refine Bool.and_eq_true_iff.2 ⟨?_, ?_⟩)
  all_goals kernel_rfl
theorem over : Rows.nlriReadRow.holds Try.pinned (OpenSpec.ofChange Rows.nlriReadSpec) :=
  OpenClaim.holds_of_wide 11 Try.f11 rfl rfl rfl rfl rfl rfl rfl ⟨rfl, rfl, rfl, rfl, rfl⟩ rfl rfl rfl rfl rfl (by kernel_rfl) Try.func11 facts
    (of_decide_eq_true (by kernel_rfl)) (by unfold Func.isWrapper; first | (rw [if_pos (by decide +kernel)]; kernel_rfl) | (rw [if_neg (by decide +kernel)]; exact ⟨rfl, rfl⟩))
    (fun os started H enc _ => lifted os started H enc)
theorem proved : Rows.NlriReadSaid := over
#print axioms proved
end Go.Proofs.Ytjdppdoakbojcaa.nlriRead

