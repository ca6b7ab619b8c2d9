/- The statement MobilityScript is true: the law answers true for all numbers and acts, by contracts of the functions that it calls. No conditions. -/
import Derived.Test.YtoimfchhmocgeaaRows
import Derived.WalkKit
import Derived.ProofKit
import Derived.OpenShut
import Derived.KernelRfl
import Derived.Test.YtoimfchhmocgeaaQu
namespace Go.Proofs.Ytoimfchhmocgeaa.mobilityScript
open Go.ChangeShapes Go.WideShapes Go.ChangeAt Go.RowKit
set_option linter.unusedVariables false
theorem own : ownKnob Try.prog.godebug = none := by kernel_rfl
theorem laidOut : laidOutB Try.prog = true := by kernel_rfl
theorem rec3 : Try.prog.readableRec 3 = true ∧ 3 < Try.prog.types.size := ⟨by kernel_rfl, of_decide_eq_true (by kernel_rfl)⟩
theorem rec49 : Try.prog.readableRec 49 = true ∧ 49 < Try.prog.types.size := ⟨by kernel_rfl, of_decide_eq_true (by kernel_rfl)⟩
set_option maxRecDepth 100000 in
set_option maxHeartbeats 1000000 in
theorem lifted (os : Os) (started : os.Started) (H : Type) (enc : TypeId × Value → H) :
    ReturnsInHanded {} Try.checked os 9 .any (Rows.mobilityScriptSpec.pre6 enc Try.prog Try.f9 Rows.mobilityScriptRow.domain false) (Rows.mobilityScriptSpec.post enc Try.prog Try.f9 false true false false) := by
  refine returnsInHanded_of_change (C := Try.checked) own started (by kernel_rfl) Try.func9
    (ChangeSpec.witness6 (enc := enc) (C := Try.checked) false ⟨#[], #[.int .i64 0, .int .i64 0, .slice none 0 0], []⟩ 12 (by kernel_rfl) (by kernel_rfl) (by kernel_rfl) (by kernel_rfl)) ?_
  intro W base args ds gs before hval0 hW hcnd _
  have hval : ∀ (j : Nat) t v, Try.f9.params[j]? = some t → args[j]? = some v → Value.okWide Try.prog W .any base t v := hval0
  have hW' := hW
  have hlt := hW.lt
  obtain ⟨p, q, hA0, hV, rfl, hfz, hnd⟩ := hW
  have hA : DataW.TrodAll enc Try.prog W 0 (fun _ => true) true Try.f9.params.toList args.toList ds p := hA0
  rw [Try.params9] at hA hval
  have hAll := hA
  obtain ⟨v0, vs0, d0, ds0, p0, q0, hargs, rfl, rfl, h0, r0⟩ := trodAll_cons hA
  obtain ⟨v1, vs1, d1, ds1, p1, q1, rfl, rfl, rfl, h1, r1⟩ := trodAll_cons r0
  obtain ⟨v2, vs2, d2, ds2, p2, q2, rfl, rfl, rfl, h2, r2⟩ := trodAll_cons r1
  obtain ⟨rfl, rfl, rfl⟩ := trodAll_nil r2
  obtain rfl : args = #[v0, v1, v2] := by cases args; simp_all
  obtain ⟨rfl, rfl⟩ := trodVars_none hV
  obtain ⟨x0, rfl, rfl, rfl, w0⟩ := open_int Try.underlying3 (hval 0 3 v0 rfl rfl) h0
  obtain ⟨x1, rfl, rfl, rfl, w1⟩ := open_int Try.underlying3 (hval 1 3 v1 rfl rfl) h1
  obtain ⟨a2, n2, c2, rfl⟩ := okWide_slice Try.underlying49 (hval 2 49 v2 rfl rfl)
  obtain ⟨f2, t2⟩ := h2
  obtain ⟨ad2, cap2, x2, e2, l2, m2, ha2, w2⟩ := Abs.arr_read (C := Abs.cx (W.heap.size + 1) (Abs.oldW W)) (k := 7) (en := Abs.en52) rfl (fun _ => rfl) Try.underlying49 (by kernel_rfl) (by decide) (fun cs m y h => Abs.read52W h) ⟨_, _, t2⟩
  clear hA0 hval0
  simp only [List.append_nil] at hW' hlt hAll
  letI : Abs.Tok := ⟨fun _ => none⟩
  have hold : ∀ b, (Abs.cx (W.heap.size + 1) (Abs.oldW W)).old b = Abs.oldW W b := fun _ => rfl
  have nr : ∀ cs : List Value, Abs.VRs (Abs.φold (Abs.cx (W.heap.size + 1) (Abs.oldW W))) (W.heap.size + 2) (cs.map (Abs.normV W.heap.size)) cs := Abs.normV_rels (by omega) (Abs.φold_hs hold) (fun b l h => (Abs.φold_blk hold b l h).1)
  have n1 : ∀ v : Value, Abs.VR (Abs.φold (Abs.cx (W.heap.size + 1) (Abs.oldW W))) (W.heap.size + 2) (Abs.normV W.heap.size v) v := Abs.normV_rel (by omega) (Abs.φold_hs hold) (fun b l h => (Abs.φold_blk hold b l h).1)
  have hct := Abs.script9_ct (c := cap2) (B0 := W.heap.size + 1) (old := Abs.oldW W) (n := 60) (Q := fun v _ => v = .bool true) ha2 (fun x hx => (w2 x hx).2) x0 x1 (fun _ => rfl)
  refine (Abs.top (C := Abs.cx (W.heap.size + 1) (Abs.oldW W)) rfl hold (Abs.extOk _ _) (args := [.int .i64 x0, .int .i64 x1, .slice ad2 x2.length cap2]) (args' := [_, _, _]) (.cons _ _ _ _ (.int _ _) (.cons _ _ _ _ (.int _ _) (.cons _ _ _ _ (by rw [← e2]; exact n1 _) .nil))) hct).mono ?_
  rintro e W' ⟨he, hg, hh⟩
  subst he
  exact ⟨_, rfl, post_of_same (pa := _) (pv := []) hW' (fun _ _ _ => (trodAll_cons_mk (shut_bool Try.underlying4 _) trodAll_mk0))
    (fun sp hsp => Abs.again laidOut hh (by intro t ht; rw [Try.params9] at ht; simp only [List.mem_cons, List.not_mem_nil, or_false] at ht; rcases ht with rfl | rfl | rfl <;> first | exact rec3 | exact rec49) hAll hlt hsp) (fun _ _ => rfl) (by first | rfl | simp)
    (hg.frame _) hg.2.1 (ok_one (by kernel_rfl) rfl (okWide_bool_mk Try.underlying4 _))⟩
theorem over : Rows.mobilityScriptRow.holds Try.pinned (OpenSpec.ofChange Rows.mobilityScriptSpec) :=
  OpenClaim.holds_of_wide 9 Try.f9 rfl rfl rfl rfl rfl rfl rfl ⟨rfl, rfl, rfl, rfl, rfl⟩ rfl rfl rfl rfl rfl (by kernel_rfl) Try.func9 (by kernel_rfl)
    (of_decide_eq_true (by kernel_rfl)) (by unfold Func.isWrapper; first | (rw [if_pos (by decide +kernel)]; kernel_rfl) | (rw [if_neg (by decide +kernel)]; exact ⟨rfl, rfl⟩))
    (fun os started H enc _ => lifted os started H enc)
theorem proved : Rows.MobilityScriptSaid := over
#print axioms proved
end Go.Proofs.Ytoimfchhmocgeaa.mobilityScript

