/- The statement RibScript is true: the law answers true for all limits and acts, by contracts of the functions that it calls. No conditions. -/
import Derived.Test.YtphadapcafibpaaGreatRows
import Derived.WalkKit
import Derived.ProofKit
import Derived.OpenShut
import Derived.KernelRfl
import Derived.Test.YtphadapcafibpaaGreatYk
namespace Go.Proofs.YtphadapcafibpaaGreat.ribScript
open Go.ChangeShapes Go.WideShapes Go.ChangeAt Go.RowKit
set_option linter.unusedVariables false
theorem own : ownKnob Tryz.prog.godebug = none := by kernel_rfl
theorem laidOut : laidOutB Tryz.prog = true := by kernel_rfl
theorem rec22 : Tryz.prog.readableRec 22 = true ∧ 22 < Tryz.prog.types.size := ⟨by kernel_rfl, of_decide_eq_true (by kernel_rfl)⟩
theorem rec3 : Tryz.prog.readableRec 3 = true ∧ 3 < Tryz.prog.types.size := ⟨by kernel_rfl, of_decide_eq_true (by kernel_rfl)⟩
set_option maxRecDepth 100000 in
set_option maxHeartbeats 1000000 in
theorem lifted (os : Os) (started : os.Started) (H : Type) (enc : TypeId × Value → H) :
    ReturnsInHanded {} Tryz.checked os 3 .any (Rows.ribScriptSpec.pre6 enc Tryz.prog Tryz.f3 Rows.ribScriptRow.domain false) (Rows.ribScriptSpec.post enc Tryz.prog Tryz.f3 false true false false) := by
  refine returnsInHanded_of_change (C := Tryz.checked) own started (by kernel_rfl) Tryz.func3
    (ChangeSpec.witness6 (enc := enc) (C := Tryz.checked) false ⟨#[], #[.int .i64 0, .slice none 0 0], []⟩ 12 (by kernel_rfl) (by kernel_rfl) (by kernel_rfl) (by kernel_rfl)) ?_
  intro W base args ds gs before hval0 hW hcnd _
  have hval : ∀ (j : Nat) t v, Tryz.f3.params[j]? = some t → args[j]? = some v → Value.okWide Tryz.prog W .any base t v := hval0
  have hW' := hW
  have hlt := hW.lt
  obtain ⟨p, q, hA0, hV, rfl, hfz, hnd⟩ := hW
  have hA : DataW.TrodAll enc Tryz.prog W 0 (fun _ => true) true Tryz.f3.params.toList args.toList ds p := hA0
  rw [Tryz.params3] at hA hval
  have hAll := hA
  obtain ⟨v0, vs0, d0, ds0, p0, q0, hargs, rfl, rfl, h0, r0⟩ := trodAll_cons hA
  obtain ⟨v1, vs1, d1, ds1, p1, q1, rfl, rfl, rfl, h1, r1⟩ := trodAll_cons r0
  obtain ⟨rfl, rfl, rfl⟩ := trodAll_nil r1
  obtain rfl : args = #[v0, v1] := by cases args; simp_all
  obtain ⟨rfl, rfl⟩ := trodVars_none hV
  obtain ⟨x0, rfl, rfl, rfl, w0⟩ := open_int Tryz.underlying3 (hval 0 3 v0 rfl rfl) h0
  obtain ⟨a1, n1, c1, rfl⟩ := okWide_slice Tryz.underlying22 (hval 1 22 v1 rfl rfl)
  obtain ⟨f1, t1⟩ := h1
  obtain ⟨ad1, cap1, x1, e1, l1, m1, ha1, w1⟩ := Abs.arr_read (C := Abs.cx (W.heap.size + 1) (Abs.oldW W)) (k := 39) (en := Abs.enAc) rfl (fun _ => rfl) Tryz.underlying22 (by kernel_rfl) (by decide) (fun cs m y h => Abs.act_readW h) ⟨_, _, t1⟩
  clear hA0 hval0
  simp only [List.append_nil] at hW' hlt hAll
  letI : Abs.Tok := ⟨fun _ => none⟩
  have hold : ∀ b, (Abs.cx (W.heap.size + 1) (Abs.oldW W)).old b = Abs.oldW W b := fun _ => rfl
  have nr : ∀ cs : List Value, Abs.VRs (Abs.φold (Abs.cx (W.heap.size + 1) (Abs.oldW W))) (W.heap.size + 2) (cs.map (Abs.normV W.heap.size)) cs := Abs.normV_rels (by omega) (Abs.φold_hs hold) (fun b l h => (Abs.φold_blk hold b l h).1)
  have n1 : ∀ v : Value, Abs.VR (Abs.φold (Abs.cx (W.heap.size + 1) (Abs.oldW W))) (W.heap.size + 2) (Abs.normV W.heap.size v) v := Abs.normV_rel (by omega) (Abs.φold_hs hold) (fun b l h => (Abs.φold_blk hold b l h).1)
  have hct := Abs.script3_ct (c := cap1) (B0 := W.heap.size + 1) (old := Abs.oldW W) (n := 60) (Q := fun v _ => v = .bool true) x0 (Abs.wfz_i64 w0) ha1 w1 (by have := m1; unfold maxLen at this; omega) rfl
  refine (Abs.top (C := Abs.cx (W.heap.size + 1) (Abs.oldW W)) rfl hold (Abs.extOk _ _) (args := [.int .i64 x0, .slice ad1 x1.length cap1]) (args' := [_, _]) (.cons _ _ _ _ (.int _ _) (.cons _ _ _ _ (by rw [← e1]; exact n1 _) .nil)) hct).mono ?_
  rintro e W' ⟨he, hg, hh⟩
  subst he
  exact ⟨_, rfl, post_of_same (pa := _) (pv := []) hW' (fun _ _ _ => (trodAll_cons_mk (shut_bool Tryz.underlying4 _) trodAll_mk0))
    (fun sp hsp => Abs.again laidOut hh (by intro t ht; rw [Tryz.params3] at ht; simp only [List.mem_cons, List.not_mem_nil, or_false] at ht; rcases ht with rfl | rfl <;> first | exact rec22 | exact rec3) hAll hlt hsp) (fun _ _ => rfl) (by first | rfl | simp)
    (hg.frame _) hg.2.1 (ok_one (by kernel_rfl) rfl (okWide_bool_mk Tryz.underlying4 _))⟩
theorem over : Rows.ribScriptRow.holds Tryz.pinned (OpenSpec.ofChange Rows.ribScriptSpec) :=
  OpenClaim.holds_of_wide 3 Tryz.f3 rfl rfl rfl rfl rfl rfl rfl ⟨rfl, rfl, rfl, rfl, rfl⟩ rfl rfl rfl rfl rfl (by kernel_rfl) Tryz.func3 (by kernel_rfl)
    (of_decide_eq_true (by kernel_rfl)) (by unfold Func.isWrapper; first | (rw [if_pos (by decide +kernel)]; kernel_rfl) | (rw [if_neg (by decide +kernel)]; exact ⟨rfl, rfl⟩))
    (fun os started H enc _ => lifted os started H enc)
theorem proved : Rows.RibScriptSaid := over
#print axioms proved
end Go.Proofs.YtphadapcafibpaaGreat.ribScript

