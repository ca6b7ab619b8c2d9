/- The plain law of packets: what is encoded is read. -/
import Derived.Test.YtjdppdoakbojcaaNo
import Derived.Test.YtjdppdoakbojcaaNf
namespace Go.Proofs.Ytjdppdoakbojcaa.Abs
open Go
set_option linter.unusedVariables false
theorem leaf33b (s : S33) : leafsEq (en33 s) (en33 s) = true := by
  unfold en33
  simp only [leafsEq, leaf0]
  simp
theorem pc_8 {a b c d e f g h i j k l m o q r P : List Int} (ha : a.length = 2) (hb : b.length = 2) (hc : c.length = 4) (hd : d.length = 1) (he : e.length = 1) (hf : f.length = 2) (hg : g.length = 4) (hh : h.length = 4) (hi : i.length = 2) (hj : j.length = 2) (hk : k.length = 2) (hl : l.length = 2) (hm : m.length = 1) (ho : o.length = 3) (hq : q.length = 3) (hr : r.length = 1) : sub (a ++ (b ++ (c ++ (d ++ (e ++ (f ++ (g ++ (h ++ (i ++ (j ++ (k ++ (l ++ (m ++ (o ++ (q ++ (r ++ (P))))))))))))))))) 8 1 = d := by
  rw [sub_r (by omega), sub_r (by omega), sub_r (by omega), sub_l (by omega)]
  rw [show 8 - a.length - b.length - c.length = 0 by omega]
  exact sub_e hd
theorem pc_9 {a b c d e f g h i j k l m o q r P : List Int} (ha : a.length = 2) (hb : b.length = 2) (hc : c.length = 4) (hd : d.length = 1) (he : e.length = 1) (hf : f.length = 2) (hg : g.length = 4) (hh : h.length = 4) (hi : i.length = 2) (hj : j.length = 2) (hk : k.length = 2) (hl : l.length = 2) (hm : m.length = 1) (ho : o.length = 3) (hq : q.length = 3) (hr : r.length = 1) : sub (a ++ (b ++ (c ++ (d ++ (e ++ (f ++ (g ++ (h ++ (i ++ (j ++ (k ++ (l ++ (m ++ (o ++ (q ++ (r ++ (P))))))))))))))))) 9 1 = e := by
  rw [sub_r (by omega), sub_r (by omega), sub_r (by omega), sub_r (by omega), sub_l (by omega)]
  rw [show 9 - a.length - b.length - c.length - d.length = 0 by omega]
  exact sub_e he
theorem pc_12 {a b c d e f g h i j k l m o q r P : List Int} (ha : a.length = 2) (hb : b.length = 2) (hc : c.length = 4) (hd : d.length = 1) (he : e.length = 1) (hf : f.length = 2) (hg : g.length = 4) (hh : h.length = 4) (hi : i.length = 2) (hj : j.length = 2) (hk : k.length = 2) (hl : l.length = 2) (hm : m.length = 1) (ho : o.length = 3) (hq : q.length = 3) (hr : r.length = 1) : sub (a ++ (b ++ (c ++ (d ++ (e ++ (f ++ (g ++ (h ++ (i ++ (j ++ (k ++ (l ++ (m ++ (o ++ (q ++ (r ++ (P))))))))))))))))) 12 4 = g := by
  rw [sub_r (by omega), sub_r (by omega), sub_r (by omega), sub_r (by omega), sub_r (by omega), sub_r (by omega), sub_l (by omega)]
  rw [show 12 - a.length - b.length - c.length - d.length - e.length - f.length = 0 by omega]
  exact sub_e hg
theorem pc_16 {a b c d e f g h i j k l m o q r P : List Int} (ha : a.length = 2) (hb : b.length = 2) (hc : c.length = 4) (hd : d.length = 1) (he : e.length = 1) (hf : f.length = 2) (hg : g.length = 4) (hh : h.length = 4) (hi : i.length = 2) (hj : j.length = 2) (hk : k.length = 2) (hl : l.length = 2) (hm : m.length = 1) (ho : o.length = 3) (hq : q.length = 3) (hr : r.length = 1) : sub (a ++ (b ++ (c ++ (d ++ (e ++ (f ++ (g ++ (h ++ (i ++ (j ++ (k ++ (l ++ (m ++ (o ++ (q ++ (r ++ (P))))))))))))))))) 16 4 = h := by
  rw [sub_r (by omega), sub_r (by omega), sub_r (by omega), sub_r (by omega), sub_r (by omega), sub_r (by omega), sub_r (by omega), sub_l (by omega)]
  rw [show 16 - a.length - b.length - c.length - d.length - e.length - f.length - g.length = 0 by omega]
  exact sub_e hh
theorem pc_20 {a b c d e f g h i j k l m o q r P : List Int} (ha : a.length = 2) (hb : b.length = 2) (hc : c.length = 4) (hd : d.length = 1) (he : e.length = 1) (hf : f.length = 2) (hg : g.length = 4) (hh : h.length = 4) (hi : i.length = 2) (hj : j.length = 2) (hk : k.length = 2) (hl : l.length = 2) (hm : m.length = 1) (ho : o.length = 3) (hq : q.length = 3) (hr : r.length = 1) : sub (a ++ (b ++ (c ++ (d ++ (e ++ (f ++ (g ++ (h ++ (i ++ (j ++ (k ++ (l ++ (m ++ (o ++ (q ++ (r ++ (P))))))))))))))))) 20 2 = i := by
  rw [sub_r (by omega), sub_r (by omega), sub_r (by omega), sub_r (by omega), sub_r (by omega), sub_r (by omega), sub_r (by omega), sub_r (by omega), sub_l (by omega)]
  rw [show 20 - a.length - b.length - c.length - d.length - e.length - f.length - g.length - h.length = 0 by omega]
  exact sub_e hi
theorem pc_22 {a b c d e f g h i j k l m o q r P : List Int} (ha : a.length = 2) (hb : b.length = 2) (hc : c.length = 4) (hd : d.length = 1) (he : e.length = 1) (hf : f.length = 2) (hg : g.length = 4) (hh : h.length = 4) (hi : i.length = 2) (hj : j.length = 2) (hk : k.length = 2) (hl : l.length = 2) (hm : m.length = 1) (ho : o.length = 3) (hq : q.length = 3) (hr : r.length = 1) : sub (a ++ (b ++ (c ++ (d ++ (e ++ (f ++ (g ++ (h ++ (i ++ (j ++ (k ++ (l ++ (m ++ (o ++ (q ++ (r ++ (P))))))))))))))))) 22 2 = j := by
  rw [sub_r (by omega), sub_r (by omega), sub_r (by omega), sub_r (by omega), sub_r (by omega), sub_r (by omega), sub_r (by omega), sub_r (by omega), sub_r (by omega), sub_l (by omega)]
  rw [show 22 - a.length - b.length - c.length - d.length - e.length - f.length - g.length - h.length - i.length = 0 by omega]
  exact sub_e hj
theorem pc_29 {a b c d e f g h i j k l m o q r P : List Int} (ha : a.length = 2) (hb : b.length = 2) (hc : c.length = 4) (hd : d.length = 1) (he : e.length = 1) (hf : f.length = 2) (hg : g.length = 4) (hh : h.length = 4) (hi : i.length = 2) (hj : j.length = 2) (hk : k.length = 2) (hl : l.length = 2) (hm : m.length = 1) (ho : o.length = 3) (hq : q.length = 3) (hr : r.length = 1) : sub (a ++ (b ++ (c ++ (d ++ (e ++ (f ++ (g ++ (h ++ (i ++ (j ++ (k ++ (l ++ (m ++ (o ++ (q ++ (r ++ (P))))))))))))))))) 29 3 = o := by
  rw [sub_r (by omega), sub_r (by omega), sub_r (by omega), sub_r (by omega), sub_r (by omega), sub_r (by omega), sub_r (by omega), sub_r (by omega), sub_r (by omega), sub_r (by omega), sub_r (by omega), sub_r (by omega), sub_r (by omega), sub_l (by omega)]
  rw [show 29 - a.length - b.length - c.length - d.length - e.length - f.length - g.length - h.length - i.length - j.length - k.length - l.length - m.length = 0 by omega]
  exact sub_e ho
theorem pc_32 {a b c d e f g h i j k l m o q r P : List Int} (ha : a.length = 2) (hb : b.length = 2) (hc : c.length = 4) (hd : d.length = 1) (he : e.length = 1) (hf : f.length = 2) (hg : g.length = 4) (hh : h.length = 4) (hi : i.length = 2) (hj : j.length = 2) (hk : k.length = 2) (hl : l.length = 2) (hm : m.length = 1) (ho : o.length = 3) (hq : q.length = 3) (hr : r.length = 1) : sub (a ++ (b ++ (c ++ (d ++ (e ++ (f ++ (g ++ (h ++ (i ++ (j ++ (k ++ (l ++ (m ++ (o ++ (q ++ (r ++ (P))))))))))))))))) 32 3 = q := by
  rw [sub_r (by omega), sub_r (by omega), sub_r (by omega), sub_r (by omega), sub_r (by omega), sub_r (by omega), sub_r (by omega), sub_r (by omega), sub_r (by omega), sub_r (by omega), sub_r (by omega), sub_r (by omega), sub_r (by omega), sub_r (by omega), sub_l (by omega)]
  rw [show 32 - a.length - b.length - c.length - d.length - e.length - f.length - g.length - h.length - i.length - j.length - k.length - l.length - m.length - o.length = 0 by omega]
  exact sub_e hq
theorem pc_d {a b c d e f g h i j k l m o q r P : List Int} (ha : a.length = 2) (hb : b.length = 2) (hc : c.length = 4) (hd : d.length = 1) (he : e.length = 1) (hf : f.length = 2) (hg : g.length = 4) (hh : h.length = 4) (hi : i.length = 2) (hj : j.length = 2) (hk : k.length = 2) (hl : l.length = 2) (hm : m.length = 1) (ho : o.length = 3) (hq : q.length = 3) (hr : r.length = 1) : (a ++ (b ++ (c ++ (d ++ (e ++ (f ++ (g ++ (h ++ (i ++ (j ++ (k ++ (l ++ (m ++ (o ++ (q ++ (r ++ (P))))))))))))))))).drop 36 = P := by
  rw [show a ++ (b ++ (c ++ (d ++ (e ++ (f ++ (g ++ (h ++ (i ++ (j ++ (k ++ (l ++ (m ++ (o ++ (q ++ (r ++ (P)))))))))))))))) = (a ++ b ++ c ++ d ++ e ++ f ++ g ++ h ++ i ++ j ++ k ++ l ++ m ++ o ++ q ++ r) ++ P by simp only [List.append_assoc]]
  exact List.drop_left' (by simp only [List.length_append]; omega)
theorem vxR_B {p : S33} (hw : p.wf) (h : vxC p = 0) : vxR (vxB p) = (p, 0, 0) := by
  have hw' := hw
  unfold S33.wf at hw'
  have hk : ¬ (p.a2 < 0 ∨ p.a2 > 255 ∨ p.a3 < 0 ∨ p.a3 > 65535 ∨ p.a4 > 16777215 ∨ p.a5 > 16777215) := fun g => by unfold vxC at h; rw [if_pos g] at h; cases h
  have hin : pkC (inn p) = 0 := by have g := h; unfold vxC at g; rwa [if_neg hk] at g
  have hr := pkR_B (inn_wf hw) (pkC_ok.1 hin)
  have hlen := vxB_len p
  have e : vxB p = be 17664 2 ++ (be (36 + (pkB (inn p)).length) 2 ++ (be 0 4 ++ (be p.a2.toNat 1 ++ (be 17 1 ++ (be (ck (ipH (36 + (pkB (inn p)).length) p.a2.toNat 17 0 p.a0.toNat p.a1.toNat)) 2 ++ (be p.a0.toNat 4 ++ (be p.a1.toNat 4 ++ (be p.a3.toNat 2 ++ (be 4789 2 ++ (be (36 + (pkB (inn p)).length - 20) 2 ++ (be 0 2 ++ ([8] ++ (be p.a5.toNat 3 ++ (be p.a4.toNat 3 ++ ([0] ++ (pkB (inn p))))))))))))))))) := by
    unfold vxB vxU ipC ipH
    simp only [List.append_assoc]
  have s8 : num (sub (vxB p) 8 1) = p.a2.toNat % 256 ^ 1 := by rw [e, pc_8 (be_len _ _) (be_len _ _) (be_len _ _) (be_len _ _) (be_len _ _) (be_len _ _) (be_len _ _) (be_len _ _) (be_len _ _) (be_len _ _) (be_len _ _) (be_len _ _) rfl (be_len _ _) (be_len _ _) rfl, num_be]
  have s9 : num (sub (vxB p) 9 1) = 17 := by rw [e, pc_9 (be_len _ _) (be_len _ _) (be_len _ _) (be_len _ _) (be_len _ _) (be_len _ _) (be_len _ _) (be_len _ _) (be_len _ _) (be_len _ _) (be_len _ _) (be_len _ _) rfl (be_len _ _) (be_len _ _) rfl, num_be]
  have s12 : num (sub (vxB p) 12 4) = p.a0.toNat % 256 ^ 4 := by rw [e, pc_12 (be_len _ _) (be_len _ _) (be_len _ _) (be_len _ _) (be_len _ _) (be_len _ _) (be_len _ _) (be_len _ _) (be_len _ _) (be_len _ _) (be_len _ _) (be_len _ _) rfl (be_len _ _) (be_len _ _) rfl, num_be]
  have s16 : num (sub (vxB p) 16 4) = p.a1.toNat % 256 ^ 4 := by rw [e, pc_16 (be_len _ _) (be_len _ _) (be_len _ _) (be_len _ _) (be_len _ _) (be_len _ _) (be_len _ _) (be_len _ _) (be_len _ _) (be_len _ _) (be_len _ _) (be_len _ _) rfl (be_len _ _) (be_len _ _) rfl, num_be]
  have s20 : num (sub (vxB p) 20 2) = p.a3.toNat % 256 ^ 2 := by rw [e, pc_20 (be_len _ _) (be_len _ _) (be_len _ _) (be_len _ _) (be_len _ _) (be_len _ _) (be_len _ _) (be_len _ _) (be_len _ _) (be_len _ _) (be_len _ _) (be_len _ _) rfl (be_len _ _) (be_len _ _) rfl, num_be]
  have s22 : num (sub (vxB p) 22 2) = 4789 := by rw [e, pc_22 (be_len _ _) (be_len _ _) (be_len _ _) (be_len _ _) (be_len _ _) (be_len _ _) (be_len _ _) (be_len _ _) (be_len _ _) (be_len _ _) (be_len _ _) (be_len _ _) rfl (be_len _ _) (be_len _ _) rfl, num_be]
  have s29 : num (sub (vxB p) 29 3) = p.a5.toNat % 256 ^ 3 := by rw [e, pc_29 (be_len _ _) (be_len _ _) (be_len _ _) (be_len _ _) (be_len _ _) (be_len _ _) (be_len _ _) (be_len _ _) (be_len _ _) (be_len _ _) (be_len _ _) (be_len _ _) rfl (be_len _ _) (be_len _ _) rfl, num_be]
  have s32 : num (sub (vxB p) 32 3) = p.a4.toNat % 256 ^ 3 := by rw [e, pc_32 (be_len _ _) (be_len _ _) (be_len _ _) (be_len _ _) (be_len _ _) (be_len _ _) (be_len _ _) (be_len _ _) (be_len _ _) (be_len _ _) (be_len _ _) (be_len _ _) rfl (be_len _ _) (be_len _ _) rfl, num_be]
  have sd : (vxB p).drop 36 = pkB (inn p) := by rw [e, pc_d (be_len _ _) (be_len _ _) (be_len _ _) (be_len _ _) (be_len _ _) (be_len _ _) (be_len _ _) (be_len _ _) (be_len _ _) (be_len _ _) (be_len _ _) (be_len _ _) rfl (be_len _ _) (be_len _ _) rfl]
  have hD : vxD (vxB p) (inn p) = p := by
    unfold vxD
    rw [s8, s12, s16, s20, s29, s32]
    rw [show ((p.a0.toNat % 256 ^ 4 : Nat) : Int) = p.a0 by omega, show ((p.a1.toNat % 256 ^ 4 : Nat) : Int) = p.a1 by omega, show ((p.a2.toNat % 256 ^ 1 : Nat) : Int) = p.a2 by omega, show ((p.a3.toNat % 256 ^ 2 : Nat) : Int) = p.a3 by omega, show ((p.a4.toNat % 256 ^ 3 : Nat) : Int) = p.a4 by omega, show ((p.a5.toNat % 256 ^ 3 : Nat) : Int) = p.a5 by omega]
    rfl
  unfold vxR
  rw [if_neg (by omega), s9, if_neg (by decide), s22, if_neg (by decide), sd, hr]
  unfold vxF
  dsimp only
  rw [if_neg (by decide), hD, if_pos ⟨h, rfl⟩]
theorem vxR_bad {b : List Int} (h : (vxR b).2.1 ≠ 0) : (vxR b).1 = vxZ ∧ 0 ≤ (vxR b).2.2 ∧ (vxR b).2.2 ≤ b.length := by
  unfold vxR at h ⊢
  split
  · dsimp only; exact ⟨rfl, by omega, by omega⟩
  rename_i h36
  rw [if_neg h36] at h
  split
  · dsimp only; exact ⟨rfl, by omega, by omega⟩
  rename_i h9
  rw [if_neg h9] at h
  split
  · dsimp only; exact ⟨rfl, by omega, by omega⟩
  rename_i h22
  rw [if_neg h22] at h
  unfold vxF at h ⊢
  split
  · rename_i hf
    have := pkR_bad hf
    rw [List.length_drop] at this
    dsimp only
    exact ⟨rfl, by omega, by omega⟩
  rename_i hf
  rw [if_neg hf] at h
  split
  · rename_i hk
    rw [if_pos hk] at h
    exact absurd rfl h
  · dsimp only; exact ⟨rfl, by omega, by omega⟩
/-- What is read without a fault. -/
theorem vxR_ok {b : List Int} (hy : ∀ y ∈ b, isY y) (h : (vxR b).2.1 = 0) : (vxR b).2.2 = 0 ∧ (vxR b).1.wf ∧ vxC (vxR b).1 = 0 ∧ vxB (vxR b).1 = b := by
  unfold vxR at h ⊢
  split
  · rename_i h36; rw [if_pos h36] at h; cases h
  rename_i h36
  rw [if_neg h36] at h
  split
  · rename_i h9; rw [if_pos h9] at h; cases h
  rename_i h9
  rw [if_neg h9] at h
  split
  · rename_i h22; rw [if_pos h22] at h; cases h
  rename_i h22
  rw [if_neg h22] at h
  unfold vxF at h ⊢
  split
  · rename_i hf; rw [if_pos hf] at h; exact absurd h hf
  rename_i hf
  rw [if_neg hf] at h
  split
  · rename_i hk
    exact ⟨rfl, vxD_wf hy (pkR_wf fun y hm => hy y (List.mem_of_mem_drop hm)), hk.1, hk.2⟩
  · rename_i hk; rw [if_neg hk] at h; cases h
end Go.Proofs.Ytjdppdoakbojcaa.Abs

/- The contract of the statement VxlanBack. -/
namespace Go.Proofs.Ytjdppdoakbojcaa.Abs
open Go
set_option linter.unusedVariables false
section
variable {B0 : Nat} {old : Nat → Option (List Value)} {n : Nat} {H : Hp} {Q : Value → Hp → Prop} {L : List Int} {ad : Option Addr} {c : Nat}
set_option maxRecDepth 10000
set_option maxHeartbeats 8000000
theorem vshort29_ct (hl : L.length < 36) (hQ : Q (vxV (vxR L)) H) : CallT (cx B0 old) (acall (cx B0 old) ansP (n + 11)) 29 [.slice ad L.length c] H Q := by
  have e : vxR L = (vxZ, 4, (L.length : Int)) := by unfold vxR; rw [if_pos (by omega)]
  rw [e] at hQ
  refine call_in1 75 rfl Try.func29 rfl rfl ?_
  repeat (first | (first | refine rt_nil ?_ | (refine isRun ?_; first | refine x1 ?_ | refine x2 ?_ | refine x3 fun _ => ?_ | refine x4 fun _ => ?_ | refine x5 fun _ => ?_ | (refine rt_step rfl rfl rfl ?_; first | refine st_buildSlice rfl (zr rfl) rfl rfl rfl rfl rfl rfl fun _ => ?_ | refine st_A rfl rfl (fun _ => rfl) rfl fun _ => ?_) | refine x8 ?_ | refine rt_skip rfl rfl rfl ?_ | refine rt_skip0 rfl rfl ?_)) | (first | refine sq_n ?_ | refine sq_r ?_ | refine sq_e ?_ | refine bk_n ?_ | refine bk_r ?_ | refine bk_e rfl ?_ | refine bk_x rfl ?_ | refine ct_seq ?_ | refine ct_region rfl ?_ | refine ct_skip ?_ | refine ct_label ?_ | refine ct_block ?_ | refine ct_exit ?_ | refine ct_ret ?_ | refine ct_scope ?_ | refine ct_true rfl ?_ | refine ct_false rfl ?_ | refine lt_step ?_))
  refine ct_condT te_d rfl (fun hc => ?_) (fun hc => ?_)
  · repeat (first | (first | refine rt_nil ?_ | (refine isRun ?_; first | refine x1 ?_ | refine x2 ?_ | refine x3 fun _ => ?_ | refine x4 fun _ => ?_ | refine x5 fun _ => ?_ | (refine rt_step rfl rfl rfl ?_; first | refine st_buildSlice rfl (zr rfl) rfl rfl rfl rfl rfl rfl fun _ => ?_ | refine st_A rfl rfl (fun _ => rfl) rfl fun _ => ?_) | refine x8 ?_ | refine rt_skip rfl rfl rfl ?_ | refine rt_skip0 rfl rfl ?_)) | (first | refine sq_n ?_ | refine sq_r ?_ | refine sq_e ?_ | refine bk_n ?_ | refine bk_r ?_ | refine bk_e rfl ?_ | refine bk_x rfl ?_ | refine ct_seq ?_ | refine ct_region rfl ?_ | refine ct_skip ?_ | refine ct_label ?_ | refine ct_block ?_ | refine ct_exit ?_ | refine ct_ret ?_ | refine ct_scope ?_ | refine ct_true rfl ?_ | refine ct_false rfl ?_ | refine lt_step ?_))
    exact re_r (by exact drop_auto) (res_cell rfl (.own _ _ hm1) rfl (sz rfl) rfl rfl (res_cell rfl (.own _ _ hm0) rfl (sz rfl) rfl rfl (res_nil hQ)))
  · exfalso; omega
theorem varg29_ct (h1 : ArrW (cx B0 old) H ad 1 encY L) (hc : L.length ≤ c) (hm : c < EL) (hy : ∀ y ∈ L, isY y) (hl : L.length ≤ 100000) (hQ : Q (vxV (vxR L)) H) : CallT (cx B0 old) (acall (cx B0 old) ansP (n + 11)) 29 [.slice ad L.length c] H Q := by
  by_cases he : L = []
  · exact vshort29_ct (by rw [he]; decide) hQ
  · exact vread29_ct (arg_cutV h1 he hc hm) hy hl hQ
theorem vlaw7_ct (p : S33) (hw : p.wf) (h1 : ArrW (cx B0 old) H ad 1 encY L) (hca : L.length ≤ c) (hm : c < EL) (hy : ∀ y ∈ L, isY y) (hll : L.length ≤ 9223372036854775807) (hQ : ∀ H', Q (.bool true) H') :
    CallT (cx B0 old) (acall (cx B0 old) ansP (n + 12)) 7 [.agg ⟨en33 p⟩, .slice ad L.length c] H Q := by
  have hb1 : ∀ {H1 : Hp} {Θ : Value → Hp → Prop}, (vxC p ≠ 0 → Θ (.tuple #[.slice none 0 0, .int .i64 (vxC p)]) H1) → (vxC p = 0 → ∀ v G, Own encY 1 (vxB p) v G → Θ (.tuple #[v, .int .i64 0]) (G ++ H1)) → CallT (cx B0 old) (acall (cx B0 old) ansP (n + 11)) 21 [.agg ⟨en33 p⟩] H1 Θ := fun a b => bytes21_ct p hw a b
  have hc1 : ∀ {H1 : Hp} {Θ : Value → Hp → Prop}, Θ (.int .i64 (vxC p)) H1 → CallT (cx B0 old) (acall (cx B0 old) ansP (n + 11)) 23 [.agg ⟨en33 p⟩] H1 Θ := fun h => check23_ct p hw h
  have hE := leaf33b p
  have hZ : leafsEq (en33 vxZ) (en33 vxZ) = true := leaf33b vxZ
  refine call_in2 88 rfl Try.func7 rfl rfl ?_
  unfold en33 at hb1 hc1 hE hZ ⊢
  unfold vxZ at hZ
  repeat (first | (first | refine rt_nil ?_ | (refine isRun ?_; first | refine x1 ?_ | refine x2 ?_ | refine x3 fun _ => ?_ | refine x4 fun _ => ?_ | refine x5 fun _ => ?_ | (refine rt_step rfl rfl rfl ?_; first | refine st_buildSlice rfl (zr rfl) rfl rfl rfl rfl rfl rfl fun _ => ?_ | refine st_A rfl rfl (fun _ => rfl) rfl fun _ => ?_) | refine x8 ?_ | refine rt_skip rfl rfl rfl ?_ | refine rt_skip0 rfl rfl ?_)) | (first | refine sq_n ?_ | refine sq_r ?_ | refine sq_e ?_ | refine bk_n ?_ | refine bk_r ?_ | refine bk_e rfl ?_ | refine bk_x rfl ?_ | refine ct_seq ?_ | refine ct_region rfl ?_ | refine ct_skip ?_ | refine ct_label ?_ | refine ct_block ?_ | refine ct_exit ?_ | refine ct_ret ?_ | refine ct_scope ?_ | refine ct_true rfl ?_ | refine ct_false rfl ?_ | refine lt_step ?_))
  refine rt_step rfl rfl rfl (st_call rfl rfl rfl rfl (call_ext rfl ?_))
  repeat (first | (first | refine rt_nil ?_ | (refine isRun ?_; first | refine x1 ?_ | refine x2 ?_ | refine x3 fun _ => ?_ | refine x4 fun _ => ?_ | refine x5 fun _ => ?_ | (refine rt_step rfl rfl rfl ?_; first | refine st_buildSlice rfl (zr rfl) rfl rfl rfl rfl rfl rfl fun _ => ?_ | refine st_A rfl rfl (fun _ => rfl) rfl fun _ => ?_) | refine x8 ?_ | refine rt_skip rfl rfl rfl ?_ | refine rt_skip0 rfl rfl ?_)) | (first | refine sq_n ?_ | refine sq_r ?_ | refine sq_e ?_ | refine bk_n ?_ | refine bk_r ?_ | refine bk_e rfl ?_ | refine bk_x rfl ?_ | refine ct_seq ?_ | refine ct_region rfl ?_ | refine ct_skip ?_ | refine ct_label ?_ | refine ct_block ?_ | refine ct_exit ?_ | refine ct_ret ?_ | refine ct_scope ?_ | refine ct_true rfl ?_ | refine ct_false rfl ?_ | refine lt_step ?_))
  refine ct_condT te_d rfl (fun hc => ?_) (fun hc => ?_)
  · repeat (first | (first | refine rt_nil ?_ | (refine isRun ?_; first | refine x1 ?_ | refine x2 ?_ | refine x3 fun _ => ?_ | refine x4 fun _ => ?_ | refine x5 fun _ => ?_ | (refine rt_step rfl rfl rfl ?_; first | refine st_buildSlice rfl (zr rfl) rfl rfl rfl rfl rfl rfl fun _ => ?_ | refine st_A rfl rfl (fun _ => rfl) rfl fun _ => ?_) | refine x8 ?_ | refine rt_skip rfl rfl rfl ?_ | refine rt_skip0 rfl rfl ?_)) | (first | refine sq_n ?_ | refine sq_r ?_ | refine sq_e ?_ | refine bk_n ?_ | refine bk_r ?_ | refine bk_e rfl ?_ | refine bk_x rfl ?_ | refine ct_seq ?_ | refine ct_region rfl ?_ | refine ct_skip ?_ | refine ct_label ?_ | refine ct_block ?_ | refine ct_exit ?_ | refine ct_ret ?_ | refine ct_scope ?_ | refine ct_true rfl ?_ | refine ct_false rfl ?_ | refine lt_step ?_))
    exact re_1 rfl rfl (List.Sublist.refl _) (hQ _)
  have hl : L.length ≤ 300 := by omega
  have hrd2 : ∀ {H1 : Hp} {Θ : Value → Hp → Prop}, ArrW (cx B0 old) H1 ad 1 encY L → Θ (vxV (vxR L)) H1 → CallT (cx B0 old) (acall (cx B0 old) ansP (n + 11)) 29 [.slice ad L.length c] H1 Θ := fun h g => varg29_ct h hca hm hy (by omega) g
  have hbad := vxR_bad (b := L)
  have hgood := vxR_ok hy
  have hb2 : (vxR L).1.wf → ∀ {H1 : Hp} {Θ : Value → Hp → Prop}, (vxC (vxR L).1 ≠ 0 → Θ (.tuple #[.slice none 0 0, .int .i64 (vxC (vxR L).1)]) H1) → (vxC (vxR L).1 = 0 → ∀ v G, Own encY 1 (vxB (vxR L).1) v G → Θ (.tuple #[v, .int .i64 0]) (G ++ H1)) → CallT (cx B0 old) (acall (cx B0 old) ansP (n + 11)) 21 [.agg ⟨en33 (vxR L).1⟩] H1 Θ := fun w => fun {H1} {Θ} a b => bytes21_ct _ w a b
  have hLne : (vxR L).2.1 = 0 → L ≠ [] := fun h e => by subst e; cases h
  generalize vxR L = q at *
  unfold vxV en33 at hrd2
  unfold en33 at hb2
  unfold vxZ at hbad
  repeat (first | (first | refine rt_nil ?_ | (refine isRun ?_; first | refine x1 ?_ | refine x2 ?_ | refine x3 fun _ => ?_ | refine x4 fun _ => ?_ | refine x5 fun _ => ?_ | (refine rt_step rfl rfl rfl ?_; first | refine st_buildSlice rfl (zr rfl) rfl rfl rfl rfl rfl rfl fun _ => ?_ | refine st_A rfl rfl (fun _ => rfl) rfl fun _ => ?_) | refine x8 ?_ | refine rt_skip rfl rfl rfl ?_ | refine rt_skip0 rfl rfl ?_)) | (first | refine sq_n ?_ | refine sq_r ?_ | refine sq_e ?_ | refine bk_n ?_ | refine bk_r ?_ | refine bk_e rfl ?_ | refine bk_x rfl ?_ | refine ct_seq ?_ | refine ct_region rfl ?_ | refine ct_skip ?_ | refine ct_label ?_ | refine ct_block ?_ | refine ct_exit ?_ | refine ct_ret ?_ | refine ct_scope ?_ | refine ct_true rfl ?_ | refine ct_false rfl ?_ | refine lt_step ?_))
  refine rt_step rfl rfl rfl (st_call rfl rfl rfl rfl (hb1 (fun hne => ?_) (fun h0 v G ho => ?_)))
  · repeat (first | (first | refine rt_nil ?_ | (refine isRun ?_; first | refine x1 ?_ | refine x2 ?_ | refine x3 fun _ => ?_ | refine x4 fun _ => ?_ | refine x5 fun _ => ?_ | (refine rt_step rfl rfl rfl ?_; first | refine st_buildSlice rfl (zr rfl) rfl rfl rfl rfl rfl rfl fun _ => ?_ | refine st_A rfl rfl (fun _ => rfl) rfl fun _ => ?_) | refine x8 ?_ | refine rt_skip rfl rfl rfl ?_ | refine rt_skip0 rfl rfl ?_)) | (first | refine sq_n ?_ | refine sq_r ?_ | refine sq_e ?_ | refine bk_n ?_ | refine bk_r ?_ | refine bk_e rfl ?_ | refine bk_x rfl ?_ | refine ct_seq ?_ | refine ct_region rfl ?_ | refine ct_skip ?_ | refine ct_label ?_ | refine ct_block ?_ | refine ct_exit ?_ | refine ct_ret ?_ | refine ct_scope ?_ | refine ct_true rfl ?_ | refine ct_false rfl ?_ | refine lt_step ?_))
    refine rt_step rfl rfl rfl (st_call rfl rfl rfl rfl (hc1 ?_))
    repeat (first | (first | refine rt_nil ?_ | (refine isRun ?_; first | refine x1 ?_ | refine x2 ?_ | refine x3 fun _ => ?_ | refine x4 fun _ => ?_ | refine x5 fun _ => ?_ | (refine rt_step rfl rfl rfl ?_; first | refine st_buildSlice rfl (zr rfl) rfl rfl rfl rfl rfl rfl fun _ => ?_ | refine st_A rfl rfl (fun _ => rfl) rfl fun _ => ?_) | refine x8 ?_ | refine rt_skip rfl rfl rfl ?_ | refine rt_skip0 rfl rfl ?_)) | (first | refine sq_n ?_ | refine sq_r ?_ | refine sq_e ?_ | refine bk_n ?_ | refine bk_r ?_ | refine bk_e rfl ?_ | refine bk_x rfl ?_ | refine ct_seq ?_ | refine ct_region rfl ?_ | refine ct_skip ?_ | refine ct_label ?_ | refine ct_block ?_ | refine ct_exit ?_ | refine ct_ret ?_ | refine ct_scope ?_ | refine ct_true rfl ?_ | refine ct_false rfl ?_ | refine lt_step ?_))
    refine isRun ?_
    refine z1 (fun hc => absurd rfl hc) (fun hc => ?_)
    repeat (first | (first | refine rt_nil ?_ | (refine isRun ?_; first | refine x1 ?_ | refine x2 ?_ | refine x3 fun _ => ?_ | refine x4 fun _ => ?_ | refine x5 fun _ => ?_ | (refine rt_step rfl rfl rfl ?_; first | refine st_buildSlice rfl (zr rfl) rfl rfl rfl rfl rfl rfl fun _ => ?_ | refine st_A rfl rfl (fun _ => rfl) rfl fun _ => ?_) | refine x8 ?_ | refine rt_skip rfl rfl rfl ?_ | refine rt_skip0 rfl rfl ?_)) | (first | refine sq_n ?_ | refine sq_r ?_ | refine sq_e ?_ | refine bk_n ?_ | refine bk_r ?_ | refine bk_e rfl ?_ | refine bk_x rfl ?_ | refine ct_seq ?_ | refine ct_region rfl ?_ | refine ct_skip ?_ | refine ct_label ?_ | refine ct_block ?_ | refine ct_exit ?_ | refine ct_ret ?_ | refine ct_scope ?_ | refine ct_true rfl ?_ | refine ct_false rfl ?_ | refine lt_step ?_))
    refine isRun ?_
    refine z1 (fun hc => ?_) (fun hc => absurd hc hne)
    repeat (first | (first | refine rt_nil ?_ | (refine isRun ?_; first | refine x1 ?_ | refine x2 ?_ | refine x3 fun _ => ?_ | refine x4 fun _ => ?_ | refine x5 fun _ => ?_ | (refine rt_step rfl rfl rfl ?_; first | refine st_buildSlice rfl (zr rfl) rfl rfl rfl rfl rfl rfl fun _ => ?_ | refine st_A rfl rfl (fun _ => rfl) rfl fun _ => ?_) | refine x8 ?_ | refine rt_skip rfl rfl rfl ?_ | refine rt_skip0 rfl rfl ?_)) | (first | refine sq_n ?_ | refine sq_r ?_ | refine sq_e ?_ | refine bk_n ?_ | refine bk_r ?_ | refine bk_e rfl ?_ | refine bk_x rfl ?_ | refine ct_seq ?_ | refine ct_region rfl ?_ | refine ct_skip ?_ | refine ct_label ?_ | refine ct_block ?_ | refine ct_exit ?_ | refine ct_ret ?_ | refine ct_scope ?_ | refine ct_true rfl ?_ | refine ct_false rfl ?_ | refine lt_step ?_))
    refine ct_condT te_e rfl (fun hc => absurd hc hne) (fun hc => ?_)
    repeat (first | (first | refine rt_nil ?_ | (refine isRun ?_; first | refine x1 ?_ | refine x2 ?_ | refine x3 fun _ => ?_ | refine x4 fun _ => ?_ | refine x5 fun _ => ?_ | (refine rt_step rfl rfl rfl ?_; first | refine st_buildSlice rfl (zr rfl) rfl rfl rfl rfl rfl rfl fun _ => ?_ | refine st_A rfl rfl (fun _ => rfl) rfl fun _ => ?_) | refine x8 ?_ | refine rt_skip rfl rfl rfl ?_ | refine rt_skip0 rfl rfl ?_)) | (first | refine sq_n ?_ | refine sq_r ?_ | refine sq_e ?_ | refine bk_n ?_ | refine bk_r ?_ | refine bk_e rfl ?_ | refine bk_x rfl ?_ | refine ct_seq ?_ | refine ct_region rfl ?_ | refine ct_skip ?_ | refine ct_label ?_ | refine ct_block ?_ | refine ct_exit ?_ | refine ct_ret ?_ | refine ct_scope ?_ | refine ct_true rfl ?_ | refine ct_false rfl ?_ | refine lt_step ?_))
    refine rt_step rfl rfl rfl (st_call rfl rfl rfl rfl (hrd2 (h1.weak (by exact drop_auto)) ?_))
    repeat (first | (first | refine rt_nil ?_ | (refine isRun ?_; first | refine x1 ?_ | refine x2 ?_ | refine x3 fun _ => ?_ | refine x4 fun _ => ?_ | refine x5 fun _ => ?_ | (refine rt_step rfl rfl rfl ?_; first | refine st_buildSlice rfl (zr rfl) rfl rfl rfl rfl rfl rfl fun _ => ?_ | refine st_A rfl rfl (fun _ => rfl) rfl fun _ => ?_) | refine x8 ?_ | refine rt_skip rfl rfl rfl ?_ | refine rt_skip0 rfl rfl ?_)) | (first | refine sq_n ?_ | refine sq_r ?_ | refine sq_e ?_ | refine bk_n ?_ | refine bk_r ?_ | refine bk_e rfl ?_ | refine bk_x rfl ?_ | refine ct_seq ?_ | refine ct_region rfl ?_ | refine ct_skip ?_ | refine ct_label ?_ | refine ct_block ?_ | refine ct_exit ?_ | refine ct_ret ?_ | refine ct_scope ?_ | refine ct_true rfl ?_ | refine ct_false rfl ?_ | refine lt_step ?_))
    refine ct_condT te_ne rfl (fun hf => ?_) (fun hf => ?_)
    · obtain ⟨z1', z2', z3'⟩ := hbad hf
      cases q with
      | mk q0 q1 =>
      dsimp only at z1' z2' z3' hf
      subst z1'
      repeat (first | (first | refine rt_nil ?_ | (refine isRun ?_; first | refine x1 ?_ | refine x2 ?_ | refine x3 fun _ => ?_ | refine x4 fun _ => ?_ | refine x5 fun _ => ?_ | (refine rt_step rfl rfl rfl ?_; first | refine st_buildSlice rfl (zr rfl) rfl rfl rfl rfl rfl rfl fun _ => ?_ | refine st_A rfl rfl (fun _ => rfl) rfl fun _ => ?_) | refine x8 ?_ | refine rt_skip rfl rfl rfl ?_ | refine rt_skip0 rfl rfl ?_)) | (first | refine sq_n ?_ | refine sq_r ?_ | refine sq_e ?_ | refine bk_n ?_ | refine bk_r ?_ | refine bk_e rfl ?_ | refine bk_x rfl ?_ | refine ct_seq ?_ | refine ct_region rfl ?_ | refine ct_skip ?_ | refine ct_label ?_ | refine ct_block ?_ | refine ct_exit ?_ | refine ct_ret ?_ | refine ct_scope ?_ | refine ct_true rfl ?_ | refine ct_false rfl ?_ | refine lt_step ?_))
      rw [hZ]
      repeat (first | (first | refine rt_nil ?_ | (refine isRun ?_; first | refine x1 ?_ | refine x2 ?_ | refine x3 fun _ => ?_ | refine x4 fun _ => ?_ | refine x5 fun _ => ?_ | (refine rt_step rfl rfl rfl ?_; first | refine st_buildSlice rfl (zr rfl) rfl rfl rfl rfl rfl rfl fun _ => ?_ | refine st_A rfl rfl (fun _ => rfl) rfl fun _ => ?_) | refine x8 ?_ | refine rt_skip rfl rfl rfl ?_ | refine rt_skip0 rfl rfl ?_)) | (first | refine sq_n ?_ | refine sq_r ?_ | refine sq_e ?_ | refine bk_n ?_ | refine bk_r ?_ | refine bk_e rfl ?_ | refine bk_x rfl ?_ | refine ct_seq ?_ | refine ct_region rfl ?_ | refine ct_skip ?_ | refine ct_label ?_ | refine ct_block ?_ | refine ct_exit ?_ | refine ct_ret ?_ | refine ct_scope ?_ | refine ct_true rfl ?_ | refine ct_false rfl ?_ | refine lt_step ?_))
      rw [decide_eq_true (show q1.2 ≥ 0 from z2')]
      repeat (first | (first | refine rt_nil ?_ | (refine isRun ?_; first | refine x1 ?_ | refine x2 ?_ | refine x3 fun _ => ?_ | refine x4 fun _ => ?_ | refine x5 fun _ => ?_ | (refine rt_step rfl rfl rfl ?_; first | refine st_buildSlice rfl (zr rfl) rfl rfl rfl rfl rfl rfl fun _ => ?_ | refine st_A rfl rfl (fun _ => rfl) rfl fun _ => ?_) | refine x8 ?_ | refine rt_skip rfl rfl rfl ?_ | refine rt_skip0 rfl rfl ?_)) | (first | refine sq_n ?_ | refine sq_r ?_ | refine sq_e ?_ | refine bk_n ?_ | refine bk_r ?_ | refine bk_e rfl ?_ | refine bk_x rfl ?_ | refine ct_seq ?_ | refine ct_region rfl ?_ | refine ct_skip ?_ | refine ct_label ?_ | refine ct_block ?_ | refine ct_exit ?_ | refine ct_ret ?_ | refine ct_scope ?_ | refine ct_true rfl ?_ | refine ct_false rfl ?_ | refine lt_step ?_))
      rw [decide_eq_true (show q1.2 ≤ (L.length : Int) from z3')]
      repeat (first | (first | refine rt_nil ?_ | (refine isRun ?_; first | refine x1 ?_ | refine x2 ?_ | refine x3 fun _ => ?_ | refine x4 fun _ => ?_ | refine x5 fun _ => ?_ | (refine rt_step rfl rfl rfl ?_; first | refine st_buildSlice rfl (zr rfl) rfl rfl rfl rfl rfl rfl fun _ => ?_ | refine st_A rfl rfl (fun _ => rfl) rfl fun _ => ?_) | refine x8 ?_ | refine rt_skip rfl rfl rfl ?_ | refine rt_skip0 rfl rfl ?_)) | (first | refine sq_n ?_ | refine sq_r ?_ | refine sq_e ?_ | refine bk_n ?_ | refine bk_r ?_ | refine bk_e rfl ?_ | refine bk_x rfl ?_ | refine ct_seq ?_ | refine ct_region rfl ?_ | refine ct_skip ?_ | refine ct_label ?_ | refine ct_block ?_ | refine ct_exit ?_ | refine ct_ret ?_ | refine ct_scope ?_ | refine ct_true rfl ?_ | refine ct_false rfl ?_ | refine lt_step ?_))
      exact re_1 rfl rfl (List.Sublist.refl _) (hQ _)
    obtain ⟨y1', y2', y3', y4'⟩ := hgood hf
    repeat (first | (first | refine rt_nil ?_ | (refine isRun ?_; first | refine x1 ?_ | refine x2 ?_ | refine x3 fun _ => ?_ | refine x4 fun _ => ?_ | refine x5 fun _ => ?_ | (refine rt_step rfl rfl rfl ?_; first | refine st_buildSlice rfl (zr rfl) rfl rfl rfl rfl rfl rfl fun _ => ?_ | refine st_A rfl rfl (fun _ => rfl) rfl fun _ => ?_) | refine x8 ?_ | refine rt_skip rfl rfl rfl ?_ | refine rt_skip0 rfl rfl ?_)) | (first | refine sq_n ?_ | refine sq_r ?_ | refine sq_e ?_ | refine bk_n ?_ | refine bk_r ?_ | refine bk_e rfl ?_ | refine bk_x rfl ?_ | refine ct_seq ?_ | refine ct_region rfl ?_ | refine ct_skip ?_ | refine ct_label ?_ | refine ct_block ?_ | refine ct_exit ?_ | refine ct_ret ?_ | refine ct_scope ?_ | refine ct_true rfl ?_ | refine ct_false rfl ?_ | refine lt_step ?_))
    refine rt_step rfl rfl rfl (st_call rfl rfl rfl rfl (hb2 y2' (fun hne => absurd y3' hne) (fun h0 v2 G2 o2 => ?_)))
    rw [y4'] at o2
    obtain ⟨a2, c2, e2, g2⟩ := o2.arrW (C := cx B0 old) encY_len
    subst e2
    have hLne' := hLne hf
    repeat (first | (first | refine rt_nil ?_ | (refine isRun ?_; first | refine x1 ?_ | refine x2 ?_ | refine x3 fun _ => ?_ | refine x4 fun _ => ?_ | refine x5 fun _ => ?_ | (refine rt_step rfl rfl rfl ?_; first | refine st_buildSlice rfl (zr rfl) rfl rfl rfl rfl rfl rfl fun _ => ?_ | refine st_A rfl rfl (fun _ => rfl) rfl fun _ => ?_) | refine x8 ?_ | refine rt_skip rfl rfl rfl ?_ | refine rt_skip0 rfl rfl ?_)) | (first | refine sq_n ?_ | refine sq_r ?_ | refine sq_e ?_ | refine bk_n ?_ | refine bk_r ?_ | refine bk_e rfl ?_ | refine bk_x rfl ?_ | refine ct_seq ?_ | refine ct_region rfl ?_ | refine ct_skip ?_ | refine ct_label ?_ | refine ct_block ?_ | refine ct_exit ?_ | refine ct_ret ?_ | refine ct_scope ?_ | refine ct_true rfl ?_ | refine ct_false rfl ?_ | refine lt_step ?_))
    apply rt_r rfl rfl rfl
    case hp => exact rd_str (g2 [] _) rfl rfl rfl rfl (.inl hLne')
    repeat (first | (first | refine rt_nil ?_ | (refine isRun ?_; first | refine x1 ?_ | refine x2 ?_ | refine x3 fun _ => ?_ | refine x4 fun _ => ?_ | refine x5 fun _ => ?_ | (refine rt_step rfl rfl rfl ?_; first | refine st_buildSlice rfl (zr rfl) rfl rfl rfl rfl rfl rfl fun _ => ?_ | refine st_A rfl rfl (fun _ => rfl) rfl fun _ => ?_) | refine x8 ?_ | refine rt_skip rfl rfl rfl ?_ | refine rt_skip0 rfl rfl ?_)) | (first | refine sq_n ?_ | refine sq_r ?_ | refine sq_e ?_ | refine bk_n ?_ | refine bk_r ?_ | refine bk_e rfl ?_ | refine bk_x rfl ?_ | refine ct_seq ?_ | refine ct_region rfl ?_ | refine ct_skip ?_ | refine ct_label ?_ | refine ct_block ?_ | refine ct_exit ?_ | refine ct_ret ?_ | refine ct_scope ?_ | refine ct_true rfl ?_ | refine ct_false rfl ?_ | refine lt_step ?_))
    apply rt_r rfl rfl rfl
    case hp => exact rd_str (h1.weak (by exact drop_auto)) rfl rfl rfl rfl (.inl hLne')
    apply rt_p rfl rfl rfl
    case hp => exact p_eqlStr rfl rfl hy hy
    rw [decide_eq_true (rfl : L = L)]
    repeat (first | (first | refine rt_nil ?_ | (refine isRun ?_; first | refine x1 ?_ | refine x2 ?_ | refine x3 fun _ => ?_ | refine x4 fun _ => ?_ | refine x5 fun _ => ?_ | (refine rt_step rfl rfl rfl ?_; first | refine st_buildSlice rfl (zr rfl) rfl rfl rfl rfl rfl rfl fun _ => ?_ | refine st_A rfl rfl (fun _ => rfl) rfl fun _ => ?_) | refine x8 ?_ | refine rt_skip rfl rfl rfl ?_ | refine rt_skip0 rfl rfl ?_)) | (first | refine sq_n ?_ | refine sq_r ?_ | refine sq_e ?_ | refine bk_n ?_ | refine bk_r ?_ | refine bk_e rfl ?_ | refine bk_x rfl ?_ | refine ct_seq ?_ | refine ct_region rfl ?_ | refine ct_skip ?_ | refine ct_label ?_ | refine ct_block ?_ | refine ct_exit ?_ | refine ct_ret ?_ | refine ct_scope ?_ | refine ct_true rfl ?_ | refine ct_false rfl ?_ | refine lt_step ?_))
    exact re_1 rfl rfl (List.Sublist.refl _) (hQ _)
  · obtain ⟨a1, c1, e1, g1⟩ := ho.arrW (C := cx B0 old) encY_len
    have hcv : ∀ X, CutV (cx B0 old) (G ++ X) encY 1 (vxB p) v := fun X => ho.cutV (pre := []) encY_len
    subst e1
    rw [h0] at hc1
    have hln : (vxB p).length ≤ 100000 := by rw [vxB_len]; have := pkB_50 (inn p); omega
    have hrd1 : ∀ {H1 : Hp} {Θ : Value → Hp → Prop}, CutV (cx B0 old) H1 encY 1 (vxB p) (.slice a1 (vxB p).length c1) → Θ (vxV (p, 0, 0)) H1 → CallT (cx B0 old) (acall (cx B0 old) ansP (n + 11)) 29 [.slice a1 (vxB p).length c1] H1 Θ := fun h1 h2 => vread29_ct h1 (vxB_Y p) hln (by rw [vxR_B hw h0]; exact h2)
    unfold vxV en33 at hrd1
    repeat (first | (first | refine rt_nil ?_ | (refine isRun ?_; first | refine x1 ?_ | refine x2 ?_ | refine x3 fun _ => ?_ | refine x4 fun _ => ?_ | refine x5 fun _ => ?_ | (refine rt_step rfl rfl rfl ?_; first | refine st_buildSlice rfl (zr rfl) rfl rfl rfl rfl rfl rfl fun _ => ?_ | refine st_A rfl rfl (fun _ => rfl) rfl fun _ => ?_) | refine x8 ?_ | refine rt_skip rfl rfl rfl ?_ | refine rt_skip0 rfl rfl ?_)) | (first | refine sq_n ?_ | refine sq_r ?_ | refine sq_e ?_ | refine bk_n ?_ | refine bk_r ?_ | refine bk_e rfl ?_ | refine bk_x rfl ?_ | refine ct_seq ?_ | refine ct_region rfl ?_ | refine ct_skip ?_ | refine ct_label ?_ | refine ct_block ?_ | refine ct_exit ?_ | refine ct_ret ?_ | refine ct_scope ?_ | refine ct_true rfl ?_ | refine ct_false rfl ?_ | refine lt_step ?_))
    refine rt_step rfl rfl rfl (st_call rfl rfl rfl rfl (hc1 ?_))
    repeat (first | (first | refine rt_nil ?_ | (refine isRun ?_; first | refine x1 ?_ | refine x2 ?_ | refine x3 fun _ => ?_ | refine x4 fun _ => ?_ | refine x5 fun _ => ?_ | (refine rt_step rfl rfl rfl ?_; first | refine st_buildSlice rfl (zr rfl) rfl rfl rfl rfl rfl rfl fun _ => ?_ | refine st_A rfl rfl (fun _ => rfl) rfl fun _ => ?_) | refine x8 ?_ | refine rt_skip rfl rfl rfl ?_ | refine rt_skip0 rfl rfl ?_)) | (first | refine sq_n ?_ | refine sq_r ?_ | refine sq_e ?_ | refine bk_n ?_ | refine bk_r ?_ | refine bk_e rfl ?_ | refine bk_x rfl ?_ | refine ct_seq ?_ | refine ct_region rfl ?_ | refine ct_skip ?_ | refine ct_label ?_ | refine ct_block ?_ | refine ct_exit ?_ | refine ct_ret ?_ | refine ct_scope ?_ | refine ct_true rfl ?_ | refine ct_false rfl ?_ | refine lt_step ?_))
    refine rt_step rfl rfl rfl (st_call rfl rfl rfl rfl (hrd1 (hcv _) ?_))
    repeat (first | (first | refine rt_nil ?_ | (refine isRun ?_; first | refine x1 ?_ | refine x2 ?_ | refine x3 fun _ => ?_ | refine x4 fun _ => ?_ | refine x5 fun _ => ?_ | (refine rt_step rfl rfl rfl ?_; first | refine st_buildSlice rfl (zr rfl) rfl rfl rfl rfl rfl rfl fun _ => ?_ | refine st_A rfl rfl (fun _ => rfl) rfl fun _ => ?_) | refine x8 ?_ | refine rt_skip rfl rfl rfl ?_ | refine rt_skip0 rfl rfl ?_)) | (first | refine sq_n ?_ | refine sq_r ?_ | refine sq_e ?_ | refine bk_n ?_ | refine bk_r ?_ | refine bk_e rfl ?_ | refine bk_x rfl ?_ | refine ct_seq ?_ | refine ct_region rfl ?_ | refine ct_skip ?_ | refine ct_label ?_ | refine ct_block ?_ | refine ct_exit ?_ | refine ct_ret ?_ | refine ct_scope ?_ | refine ct_true rfl ?_ | refine ct_false rfl ?_ | refine lt_step ?_))
    rw [hE]
    repeat (first | (first | refine rt_nil ?_ | (refine isRun ?_; first | refine x1 ?_ | refine x2 ?_ | refine x3 fun _ => ?_ | refine x4 fun _ => ?_ | refine x5 fun _ => ?_ | (refine rt_step rfl rfl rfl ?_; first | refine st_buildSlice rfl (zr rfl) rfl rfl rfl rfl rfl rfl fun _ => ?_ | refine st_A rfl rfl (fun _ => rfl) rfl fun _ => ?_) | refine x8 ?_ | refine rt_skip rfl rfl rfl ?_ | refine rt_skip0 rfl rfl ?_)) | (first | refine sq_n ?_ | refine sq_r ?_ | refine sq_e ?_ | refine bk_n ?_ | refine bk_r ?_ | refine bk_e rfl ?_ | refine bk_x rfl ?_ | refine ct_seq ?_ | refine ct_region rfl ?_ | refine ct_skip ?_ | refine ct_label ?_ | refine ct_block ?_ | refine ct_exit ?_ | refine ct_ret ?_ | refine ct_scope ?_ | refine ct_true rfl ?_ | refine ct_false rfl ?_ | refine lt_step ?_))
    refine rt_step rfl rfl rfl (st_call rfl rfl rfl rfl (hrd2 (h1.weak (by exact drop_auto)) ?_))
    repeat (first | (first | refine rt_nil ?_ | (refine isRun ?_; first | refine x1 ?_ | refine x2 ?_ | refine x3 fun _ => ?_ | refine x4 fun _ => ?_ | refine x5 fun _ => ?_ | (refine rt_step rfl rfl rfl ?_; first | refine st_buildSlice rfl (zr rfl) rfl rfl rfl rfl rfl rfl fun _ => ?_ | refine st_A rfl rfl (fun _ => rfl) rfl fun _ => ?_) | refine x8 ?_ | refine rt_skip rfl rfl rfl ?_ | refine rt_skip0 rfl rfl ?_)) | (first | refine sq_n ?_ | refine sq_r ?_ | refine sq_e ?_ | refine bk_n ?_ | refine bk_r ?_ | refine bk_e rfl ?_ | refine bk_x rfl ?_ | refine ct_seq ?_ | refine ct_region rfl ?_ | refine ct_skip ?_ | refine ct_label ?_ | refine ct_block ?_ | refine ct_exit ?_ | refine ct_ret ?_ | refine ct_scope ?_ | refine ct_true rfl ?_ | refine ct_false rfl ?_ | refine lt_step ?_))
    refine ct_condT te_ne rfl (fun hf => ?_) (fun hf => ?_)
    · obtain ⟨z1', z2', z3'⟩ := hbad hf
      cases q with
      | mk q0 q1 =>
      dsimp only at z1' z2' z3' hf
      subst z1'
      repeat (first | (first | refine rt_nil ?_ | (refine isRun ?_; first | refine x1 ?_ | refine x2 ?_ | refine x3 fun _ => ?_ | refine x4 fun _ => ?_ | refine x5 fun _ => ?_ | (refine rt_step rfl rfl rfl ?_; first | refine st_buildSlice rfl (zr rfl) rfl rfl rfl rfl rfl rfl fun _ => ?_ | refine st_A rfl rfl (fun _ => rfl) rfl fun _ => ?_) | refine x8 ?_ | refine rt_skip rfl rfl rfl ?_ | refine rt_skip0 rfl rfl ?_)) | (first | refine sq_n ?_ | refine sq_r ?_ | refine sq_e ?_ | refine bk_n ?_ | refine bk_r ?_ | refine bk_e rfl ?_ | refine bk_x rfl ?_ | refine ct_seq ?_ | refine ct_region rfl ?_ | refine ct_skip ?_ | refine ct_label ?_ | refine ct_block ?_ | refine ct_exit ?_ | refine ct_ret ?_ | refine ct_scope ?_ | refine ct_true rfl ?_ | refine ct_false rfl ?_ | refine lt_step ?_))
      rw [hZ]
      repeat (first | (first | refine rt_nil ?_ | (refine isRun ?_; first | refine x1 ?_ | refine x2 ?_ | refine x3 fun _ => ?_ | refine x4 fun _ => ?_ | refine x5 fun _ => ?_ | (refine rt_step rfl rfl rfl ?_; first | refine st_buildSlice rfl (zr rfl) rfl rfl rfl rfl rfl rfl fun _ => ?_ | refine st_A rfl rfl (fun _ => rfl) rfl fun _ => ?_) | refine x8 ?_ | refine rt_skip rfl rfl rfl ?_ | refine rt_skip0 rfl rfl ?_)) | (first | refine sq_n ?_ | refine sq_r ?_ | refine sq_e ?_ | refine bk_n ?_ | refine bk_r ?_ | refine bk_e rfl ?_ | refine bk_x rfl ?_ | refine ct_seq ?_ | refine ct_region rfl ?_ | refine ct_skip ?_ | refine ct_label ?_ | refine ct_block ?_ | refine ct_exit ?_ | refine ct_ret ?_ | refine ct_scope ?_ | refine ct_true rfl ?_ | refine ct_false rfl ?_ | refine lt_step ?_))
      rw [decide_eq_true (show q1.2 ≥ 0 from z2')]
      repeat (first | (first | refine rt_nil ?_ | (refine isRun ?_; first | refine x1 ?_ | refine x2 ?_ | refine x3 fun _ => ?_ | refine x4 fun _ => ?_ | refine x5 fun _ => ?_ | (refine rt_step rfl rfl rfl ?_; first | refine st_buildSlice rfl (zr rfl) rfl rfl rfl rfl rfl rfl fun _ => ?_ | refine st_A rfl rfl (fun _ => rfl) rfl fun _ => ?_) | refine x8 ?_ | refine rt_skip rfl rfl rfl ?_ | refine rt_skip0 rfl rfl ?_)) | (first | refine sq_n ?_ | refine sq_r ?_ | refine sq_e ?_ | refine bk_n ?_ | refine bk_r ?_ | refine bk_e rfl ?_ | refine bk_x rfl ?_ | refine ct_seq ?_ | refine ct_region rfl ?_ | refine ct_skip ?_ | refine ct_label ?_ | refine ct_block ?_ | refine ct_exit ?_ | refine ct_ret ?_ | refine ct_scope ?_ | refine ct_true rfl ?_ | refine ct_false rfl ?_ | refine lt_step ?_))
      rw [decide_eq_true (show q1.2 ≤ (L.length : Int) from z3')]
      repeat (first | (first | refine rt_nil ?_ | (refine isRun ?_; first | refine x1 ?_ | refine x2 ?_ | refine x3 fun _ => ?_ | refine x4 fun _ => ?_ | refine x5 fun _ => ?_ | (refine rt_step rfl rfl rfl ?_; first | refine st_buildSlice rfl (zr rfl) rfl rfl rfl rfl rfl rfl fun _ => ?_ | refine st_A rfl rfl (fun _ => rfl) rfl fun _ => ?_) | refine x8 ?_ | refine rt_skip rfl rfl rfl ?_ | refine rt_skip0 rfl rfl ?_)) | (first | refine sq_n ?_ | refine sq_r ?_ | refine sq_e ?_ | refine bk_n ?_ | refine bk_r ?_ | refine bk_e rfl ?_ | refine bk_x rfl ?_ | refine ct_seq ?_ | refine ct_region rfl ?_ | refine ct_skip ?_ | refine ct_label ?_ | refine ct_block ?_ | refine ct_exit ?_ | refine ct_ret ?_ | refine ct_scope ?_ | refine ct_true rfl ?_ | refine ct_false rfl ?_ | refine lt_step ?_))
      exact re_1 rfl rfl (List.Sublist.refl _) (hQ _)
    obtain ⟨y1', y2', y3', y4'⟩ := hgood hf
    repeat (first | (first | refine rt_nil ?_ | (refine isRun ?_; first | refine x1 ?_ | refine x2 ?_ | refine x3 fun _ => ?_ | refine x4 fun _ => ?_ | refine x5 fun _ => ?_ | (refine rt_step rfl rfl rfl ?_; first | refine st_buildSlice rfl (zr rfl) rfl rfl rfl rfl rfl rfl fun _ => ?_ | refine st_A rfl rfl (fun _ => rfl) rfl fun _ => ?_) | refine x8 ?_ | refine rt_skip rfl rfl rfl ?_ | refine rt_skip0 rfl rfl ?_)) | (first | refine sq_n ?_ | refine sq_r ?_ | refine sq_e ?_ | refine bk_n ?_ | refine bk_r ?_ | refine bk_e rfl ?_ | refine bk_x rfl ?_ | refine ct_seq ?_ | refine ct_region rfl ?_ | refine ct_skip ?_ | refine ct_label ?_ | refine ct_block ?_ | refine ct_exit ?_ | refine ct_ret ?_ | refine ct_scope ?_ | refine ct_true rfl ?_ | refine ct_false rfl ?_ | refine lt_step ?_))
    refine rt_step rfl rfl rfl (st_call rfl rfl rfl rfl (hb2 y2' (fun hne => absurd y3' hne) (fun h0 v2 G2 o2 => ?_)))
    rw [y4'] at o2
    obtain ⟨a2, c2, e2, g2⟩ := o2.arrW (C := cx B0 old) encY_len
    subst e2
    have hLne' := hLne hf
    repeat (first | (first | refine rt_nil ?_ | (refine isRun ?_; first | refine x1 ?_ | refine x2 ?_ | refine x3 fun _ => ?_ | refine x4 fun _ => ?_ | refine x5 fun _ => ?_ | (refine rt_step rfl rfl rfl ?_; first | refine st_buildSlice rfl (zr rfl) rfl rfl rfl rfl rfl rfl fun _ => ?_ | refine st_A rfl rfl (fun _ => rfl) rfl fun _ => ?_) | refine x8 ?_ | refine rt_skip rfl rfl rfl ?_ | refine rt_skip0 rfl rfl ?_)) | (first | refine sq_n ?_ | refine sq_r ?_ | refine sq_e ?_ | refine bk_n ?_ | refine bk_r ?_ | refine bk_e rfl ?_ | refine bk_x rfl ?_ | refine ct_seq ?_ | refine ct_region rfl ?_ | refine ct_skip ?_ | refine ct_label ?_ | refine ct_block ?_ | refine ct_exit ?_ | refine ct_ret ?_ | refine ct_scope ?_ | refine ct_true rfl ?_ | refine ct_false rfl ?_ | refine lt_step ?_))
    apply rt_r rfl rfl rfl
    case hp => exact rd_str (g2 [] _) rfl rfl rfl rfl (.inl hLne')
    repeat (first | (first | refine rt_nil ?_ | (refine isRun ?_; first | refine x1 ?_ | refine x2 ?_ | refine x3 fun _ => ?_ | refine x4 fun _ => ?_ | refine x5 fun _ => ?_ | (refine rt_step rfl rfl rfl ?_; first | refine st_buildSlice rfl (zr rfl) rfl rfl rfl rfl rfl rfl fun _ => ?_ | refine st_A rfl rfl (fun _ => rfl) rfl fun _ => ?_) | refine x8 ?_ | refine rt_skip rfl rfl rfl ?_ | refine rt_skip0 rfl rfl ?_)) | (first | refine sq_n ?_ | refine sq_r ?_ | refine sq_e ?_ | refine bk_n ?_ | refine bk_r ?_ | refine bk_e rfl ?_ | refine bk_x rfl ?_ | refine ct_seq ?_ | refine ct_region rfl ?_ | refine ct_skip ?_ | refine ct_label ?_ | refine ct_block ?_ | refine ct_exit ?_ | refine ct_ret ?_ | refine ct_scope ?_ | refine ct_true rfl ?_ | refine ct_false rfl ?_ | refine lt_step ?_))
    apply rt_r rfl rfl rfl
    case hp => exact rd_str (h1.weak (by exact drop_auto)) rfl rfl rfl rfl (.inl hLne')
    apply rt_p rfl rfl rfl
    case hp => exact p_eqlStr rfl rfl hy hy
    rw [decide_eq_true (rfl : L = L)]
    repeat (first | (first | refine rt_nil ?_ | (refine isRun ?_; first | refine x1 ?_ | refine x2 ?_ | refine x3 fun _ => ?_ | refine x4 fun _ => ?_ | refine x5 fun _ => ?_ | (refine rt_step rfl rfl rfl ?_; first | refine st_buildSlice rfl (zr rfl) rfl rfl rfl rfl rfl rfl fun _ => ?_ | refine st_A rfl rfl (fun _ => rfl) rfl fun _ => ?_) | refine x8 ?_ | refine rt_skip rfl rfl rfl ?_ | refine rt_skip0 rfl rfl ?_)) | (first | refine sq_n ?_ | refine sq_r ?_ | refine sq_e ?_ | refine bk_n ?_ | refine bk_r ?_ | refine bk_e rfl ?_ | refine bk_x rfl ?_ | refine ct_seq ?_ | refine ct_region rfl ?_ | refine ct_skip ?_ | refine ct_label ?_ | refine ct_block ?_ | refine ct_exit ?_ | refine ct_ret ?_ | refine ct_scope ?_ | refine ct_true rfl ?_ | refine ct_false rfl ?_ | refine lt_step ?_))
    exact re_1 rfl rfl (List.Sublist.refl _) (hQ _)
end
end Go.Proofs.Ytjdppdoakbojcaa.Abs
