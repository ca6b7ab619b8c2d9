/- The plain law of packets: what is encoded is read. -/
import Derived.Test.YtjdppdoakbojcaaNo
import Derived.Test.YtjdppdoakbojcaaNf
namespace Go.Proofs.Ytjdppdoakbojcaa.Abs
open Go
set_option linter.unusedVariables false
theorem leaf33b (s : S33) : leafsEq (en33 s) (en33 s) = true := by
  unfold en33
  simp only [leafsEq, leaf0]
  simp
theorem pc_8 {a b c d e f g h i j k l m o q r P : List Int} (ha : a.length = 2) (hb : b.length = 2) (hc : c.length = 4) (hd : d.length = 1) (he : e.length = 1) (hf : f.length = 2) (hg : g.length = 4) (hh : h.length = 4) (hi : i.length = 2) (hj : j.length = 2) (hk : k.length = 2) (hl : l.length = 2) (hm : m.length = 1) (ho : o.length = 3) (hq : q.length = 3) (hr : r.length = 1) : sub (a ++ (b ++ (c ++ (d ++ (e ++ (f ++ (g ++ (h ++ (i ++ (j ++ (k ++ (l ++ (m ++ (o ++ (q ++ (r ++ (P))))))))))))))))) 8 1 = d := by
  rw [sub_r (by omega), sub_r (by omega), sub_r (by omega), sub_l (by omega)]
  rw [show 8 - a.length - b.length - c.length = 0 by omega]
  exact sub_e hd
theorem pc_9 {a b c d e f g h i j k l m o q r P : List Int} (ha : a.length = 2) (hb : b.length = 2) (hc : c.length = 4) (hd : d.length = 1) (he : e.length = 1) (hf : f.length = 2) (hg : g.length = 4) (hh : h.length = 4) (hi : i.length = 2) (hj : j.length = 2) (hk : k.length = 2) (hl : l.length = 2) (hm : m.length = 1) (ho : o.length = 3) (hq : q.length = 3) (hr : r.length = 1) : sub (a ++ (b ++ (c ++ (d ++ (e ++ (f ++ (g ++ (h ++ (i ++ (j ++ (k ++ (l ++ (m ++ (o ++ (q ++ (r ++ (P))))))))))))))))) 9 1 = e := by
  rw [sub_r (by omega), sub_r (by omega), sub_r (by omega), sub_r (by omega), sub_l (by omega)]
  rw [show 9 - a.length - b.length - c.length - d.length = 0 by omega]
  exact sub_e he
theorem pc_12 {a b c d e f g h i j k l m o q r P : List Int} (ha : a.length = 2) (hb : b.length = 2) (hc : c.length = 4) (hd : d.length = 1) (he : e.length = 1) (hf : f.length = 2) (hg : g.length = 4) (hh : h.length = 4) (hi : i.length = 2) (hj : j.length = 2) (hk : k.length = 2) (hl : l.length = 2) (hm : m.length = 1) (ho : o.length = 3) (hq : q.length = 3) (hr : r.length = 1) : sub (a ++ (b ++ (c ++ (d ++ (e ++ (f ++ (g ++ (h ++ (i ++ (j ++ (k ++ (l ++ (m ++ (o ++ (q ++ (r ++ (P))))))))))))))))) 12 4 = g := by
  rw [sub_r (by omega), sub_r (by omega), sub_r (by omega), sub_r (by omega), sub_r (by omega), sub_r (by omega), sub_l (by omega)]
  rw [show 12 - a.length - b.length - c.length - d.length - e.length - f.length = 0 by omega]
  exact sub_e hg
theorem pc_16 {a b c d e f g h i j k l m o q r P : List Int} (ha : a.length = 2) (hb : b.length = 2) (hc : c.length = 4) (hd : d.length = 1) (he : e.length = 1) (hf : f.length = 2) (hg : g.length = 4) (hh : h.length = 4) (hi : i.length = 2) (hj : j.length = 2) (hk : k.length = 2) (hl : l.length = 2) (hm : m.length = 1) (ho : o.length = 3) (hq : q.length = 3) (hr : r.length = 1) : sub (a ++ (b ++ (c ++ (d ++ (e ++ (f ++ (g ++ (h ++ (i ++ (j ++ (k ++ (l ++ (m ++ (o ++ (q ++ (r ++ (P))))))))))))))))) 16 4 = h := by
  rw [sub_r (by omega), sub_r (by omega), sub_r (by omega), sub_r (by omega), sub_r (by omega), sub_r (by omega), sub_r (by omega), sub_l (by omega)]
  rw [show 16 - a.length - b.length - c.length - d.length - e.length - f.length - g.length = 0 by omega]
  exact sub_e hh
theorem pc_20 {a b c d e f g h i j k l m o q r P : List Int} (ha : a.length = 2) (hb : b.length = 2) (hc : c.length = 4) (hd : d.length = 1) (he : e.length = 1) (hf : f.length = 2) (hg : g.length = 4) (hh : h.length = 4) (hi : i.length = 2) (hj : j.length = 2) (hk : k.length = 2) (hl : l.length = 2) (hm : m.length = 1) (ho : o.length = 3) (hq : q.length = 3) (hr : r.length = 1) : sub (a ++ (b ++ (c ++ (d ++ (e ++ (f ++ (g ++ (h ++ (i ++ (j ++ (k ++ (l ++ (m ++ (o ++ (q ++ (r ++ (P))))))))))))))))) 20 2 = i := by
  rw [sub_r (by omega), sub_r (by omega), sub_r (by omega), sub_r (by omega), sub_r (by omega), sub_r (by omega), sub_r (by omega), sub_r (by omega), sub_l (by omega)]
  rw [show 20 - a.length - b.length - c.length - d.length - e.length - f.length - g.length - h.length = 0 by omega]
  exact sub_e hi
theorem pc_22 {a b c d e f g h i j k l m o q r P : List Int} (ha : a.length = 2) (hb : b.length = 2) (hc : c.length = 4) (hd : d.length = 1) (he : e.length = 1) (hf : f.length = 2) (hg : g.length = 4) (hh : h.length = 4) (hi : i.length = 2) (hj : j.length = 2) (hk : k.length = 2) (hl : l.length = 2) (hm : m.length = 1) (ho : o.length = 3) (hq : q.length = 3) (hr : r.length = 1) : sub (a ++ (b ++ (c ++ (d ++ (e ++ (f ++ (g ++ (h ++ (i ++ (j ++ (k ++ (l ++ (m ++ (o ++ (q ++ (r ++ (P))))))))))))))))) 22 2 = j := by
  rw [sub_r (by omega), sub_r (by omega), sub_r (by omega), sub_r (by omega), sub_r (by omega), sub_r (by omega), sub_r (by omega), sub_r (by omega), sub_r (by omega), sub_l (by omega)]
  rw [show 22 - a.length - b.length - c.length - d.length - e.length - f.length - g.length - h.length - i.length = 0 by omega]
  exact sub_e hj
theorem pc_29 {a b c d e f g h i j k l m o q r P : List Int} (ha : a.length = 2) (hb : b.length = 2) (hc : c.length = 4) (hd : d.length = 1) (he : e.length = 1) (hf : f.length = 2) (hg : g.length = 4) (hh : h.length = 4) (hi : i.length = 2) (hj : j.length = 2) (hk : k.length = 2) (hl : l.length = 2) (hm : m.length = 1) (ho : o.length = 3) (hq : q.length = 3) (hr : r.length = 1) : sub (a ++ (b ++ (c ++ (d ++ (e ++ (f ++ (g ++ (h ++ (i ++ (j ++ (k ++ (l ++ (m ++ (o ++ (q ++ (r ++ (P))))))))))))))))) 29 3 = o := by
  rw [sub_r (by omega), sub_r (by omega), sub_r (by omega), sub_r (by omega), sub_r (by omega), sub_r (by omega), sub_r (by omega), sub_r (by omega), sub_r (by omega), sub_r (by omega), sub_r (by omega), sub_r (by omega), sub_r (by omega), sub_l (by omega)]
  rw [show 29 - a.length - b.length - c.length - d.length - e.length - f.length - g.length - h.length - i.length - j.length - k.length - l.length - m.length = 0 by omega]
  exact sub_e ho
theorem pc_32 {a b c d e f g h i j k l m o q r P : List Int} (ha : a.length = 2) (hb : b.length = 2) (hc : c.length = 4) (hd : d.length = 1) (he : e.length = 1) (hf : f.length = 2) (hg : g.length = 4) (hh : h.length = 4) (hi : i.length = 2) (hj : j.length = 2) (hk : k.length = 2) (hl : l.length = 2) (hm : m.length = 1) (ho : o.length = 3) (hq : q.length = 3) (hr : r.length = 1) : sub (a ++ (b ++ (c ++ (d ++ (e ++ (f ++ (g ++ (h ++ (i ++ (j ++ (k ++ (l ++ (m ++ (o ++ (q ++ (r ++ (P))))))))))))))))) 32 3 = q := by
  rw [sub_r (by omega), sub_r (by omega), sub_r (by omega), sub_r (by omega), sub_r (by omega), sub_r (by omega), sub_r (by omega), sub_r (by omega), sub_r (by omega), sub_r (by omega), sub_r (by omega), sub_r (by omega), sub_r (by omega), sub_r (by omega), sub_l (by omega)]
  rw [show 32 - a.length - b.length - c.length - d.length - e.length - f.length - g.length - h.length - i.length - j.length - k.length - l.length - m.length - o.length = 0 by omega]
  exact sub_e hq
theorem pc_d {a b c d e f g h i j k l m o q r P : List Int} (ha : a.length = 2) (hb : b.length = 2) (hc : c.length = 4) (hd : d.length = 1) (he : e.length = 1) (hf : f.length = 2) (hg : g.length = 4) (hh : h.length = 4) (hi : i.length = 2) (hj : j.length = 2) (hk : k.length = 2) (hl : l.length = 2) (hm : m.length = 1) (ho : o.length = 3) (hq : q.length = 3) (hr : r.length = 1) : (a ++ (b ++ (c ++ (d ++ (e ++ (f ++ (g ++ (h ++ (i ++ (j ++ (k ++ (l ++ (m ++ (o ++ (q ++ (r ++ (P))))))))))))))))).drop 36 = P := by
  rw [show a ++ (b ++ (c ++ (d ++ (e ++ (f ++ (g ++ (h ++ (i ++ (j ++ (k ++ (l ++ (m ++ (o ++ (q ++ (r ++ (P)))))))))))))))) = (a ++ b ++ c ++ d ++ e ++ f ++ g ++ h ++ i ++ j ++ k ++ l ++ m ++ o ++ q ++ r) ++ P by simp only [List.append_assoc]]
  exact List.drop_left' (by simp only [List.length_append]; omega)
theorem vxR_B {p : S33} (hw : p.wf) (h : vxC p = 0) : vxR (vxB p) = (p, 0, 0) := by
  have hw' := hw
  unfold S33.wf at hw'
  have hk : ¬ (p.a2 < 0 ∨ p.a2 > 255 ∨ p.a3 < 0 ∨ p.a3 > 65535 ∨ p.a4 > 16777215 ∨ p.a5 > 16777215) := fun g => by unfold vxC at h; rw [if_pos g] at h; cases h
  have hin : pkC (inn p) = 0 := by have g := h; unfold vxC at g; rwa [if_neg hk] at g
  have hr := pkR_B (inn_wf hw) (pkC_ok.1 hin)
  have hlen := vxB_len p
  have e : vxB p = be 17664 2 ++ (be (36 + (pkB (inn p)).length) 2 ++ (be 0 4 ++ (be p.a2.toNat 1 ++ (be 17 1 ++ (be (ck (ipH (36 + (pkB (inn p)).length) p.a2.toNat 17 0 p.a0.toNat p.a1.toNat)) 2 ++ (be p.a0.toNat 4 ++ (be p.a1.toNat 4 ++ (be p.a3.toNat 2 ++ (be 4789 2 ++ (be (36 + (pkB (inn p)).length - 20) 2 ++ (be 0 2 ++ ([8] ++ (be p.a5.toNat 3 ++ (be p.a4.toNat 3 ++ ([0] ++ (pkB (inn p))))))))))))))))) := by
    unfold vxB vxU ipC ipH
    simp only [List.append_assoc]
  have s8 : num (sub (vxB p) 8 1) = p.a2.toNat % 256 ^ 1 := by rw [e, pc_8 (be_len _ _) (be_len _ _) (be_len _ _) (be_len _ _) (be_len _ _) (be_len _ _) (be_len _ _) (be_len _ _) (be_len _ _) (be_len _ _) (be_len _ _) (be_len _ _) rfl (be_len _ _) (be_len _ _) rfl, num_be]
  have s9 : num (sub (vxB p) 9 1) = 17 := by rw [e, pc_9 (be_len _ _) (be_len _ _) (be_len _ _) (be_len _ _) (be_len _ _) (be_len _ _) (be_len _ _) (be_len _ _) (be_len _ _) (be_len _ _) (be_len _ _) (be_len _ _) rfl (be_len _ _) (be_len _ _) rfl, num_be]
  have s12 : num (sub (vxB p) 12 4) = p.a0.toNat % 256 ^ 4 := by rw [e, pc_12 (be_len _ _) (be_len _ _) (be_len _ _) (be_len _ _) (be_len _ _) (be_len _ _) (be_len _ _) (be_len _ _) (be_len _ _) (be_len _ _) (be_len _ _) (be_len _ _) rfl (be_len _ _) (be_len _ _) rfl, num_be]
  have s16 : num (sub (vxB p) 16 4) = p.a1.toNat % 256 ^ 4 := by rw [e, pc_16 (be_len _ _) (be_len _ _) (be_len _ _) (be_len _ _) (be_len _ _) (be_len _ _) (be_len _ _) (be_len _ _) (be_len _ _) (be_len _ _) (be_len _ _) (be_len _ _) rfl (be_len _ _) (be_len _ _) rfl, num_be]
  have s20 : num (sub (vxB p) 20 2) = p.a3.toNat % 256 ^ 2 := by rw [e, pc_20 (be_len _ _) (be_len _ _) (be_len _ _) (be_len _ _) (be_len _ _) (be_len _ _) (be_len _ _) (be_len _ _) (be_len _ _) (be_len _ _) (be_len _ _) (be_len _ _) rfl (be_len _ _) (be_len _ _) rfl, num_be]
  have s22 : num (sub (vxB p) 22 2) = 4789 := by rw [e, pc_22 (be_len _ _) (be_len _ _) (be_len _ _) (be_len _ _) (be_len _ _) (be_len _ _) (be_len _ _) (be_len _ _) (be_len _ _) (be_len _ _) (be_len _ _) (be_len _ _) rfl (be_len _ _) (be_len _ _) rfl, num_be]
  have s29 : num (sub (vxB p) 29 3) = p.a5.toNat % 256 ^ 3 := by rw [e, pc_29 (be_len _ _) (be_len _ _) (be_len _ _) (be_len _ _) (be_len _ _) (be_len _ _) (be_len _ _) (be_len _ _) (be_len _ _) (be_len _ _) (be_len _ _) (be_len _ _) rfl (be_len _ _) (be_len _ _) rfl, num_be]
  have s32 : num (sub (vxB p) 32 3) = p.a4.toNat % 256 ^ 3 := by rw [e, pc_32 (be_len _ _) (be_len _ _) (be_len _ _) (be_len _ _) (be_len _ _) (be_len _ _) (be_len _ _) (be_len _ _) (be_len _ _) (be_len _ _) (be_len _ _) (be_len _ _) rfl (be_len _ _) (be_len _ _) rfl, num_be]
  have sd : (vxB p).drop 36 = pkB (inn p) := by rw [e, pc_d (be_len _ _) (be_len _ _) (be_len _ _) (be_len _ _) (be_len _ _) (be_len _ _) (be_len _ _) (be_len _ _) (be_len _ _) (be_len _ _) (be_len _ _) (be_len _ _) rfl (be_len _ _) (be_len _ _) rfl]
  have hD : vxD (vxB p) (inn p) = p := by
    unfold vxD
    rw [s8, s12, s16, s20, s29, s32]
    rw [show ((p.a0.toNat % 256 ^ 4 : Nat) : Int) = p.a0 by omega, show ((p.a1.toNat % 256 ^ 4 : Nat) : Int) = p.a1 by omega, show ((p.a2.toNat % 256 ^ 1 : Nat) : Int) = p.a2 by omega, show ((p.a3.toNat % 256 ^ 2 : Nat) : Int) = p.a3 by omega, show ((p.a4.toNat % 256 ^ 3 : Nat) : Int) = p.a4 by omega, show ((p.a5.toNat % 256 ^ 3 : Nat) : Int) = p.a5 by omega]
    rfl
  unfold vxR
  rw [if_neg (by omega), s9, if_neg (by decide), s22, if_neg (by decide), sd, hr]
  unfold vxF
  dsimp only
  rw [if_neg (by decide), hD, if_pos ⟨h, rfl⟩]
theorem vxR_bad {b : List Int} (h : (vxR b).2.1 ≠ 0) : (vxR b).1 = vxZ ∧ 0 ≤ (vxR b).2.2 ∧ (vxR b).2.2 ≤ b.length := by
  unfold vxR at h ⊢
  split
  · dsimp only; exact ⟨rfl, by omega, by omega⟩
  rename_i h36
  rw [if_neg h36] at h
  split
  · dsimp only; exact ⟨rfl, by omega, by omega⟩
  rename_i h9
  rw [if_neg h9] at h
  split
  · dsimp only; exact ⟨rfl, by omega, by omega⟩
  rename_i h22
  rw [if_neg h22] at h
  unfold vxF at h ⊢
  split
  · rename_i hf
    have := pkR_bad hf
    rw [List.length_drop] at this
    dsimp only
    exact ⟨rfl, by omega, by omega⟩
  rename_i hf
  rw [if_neg hf] at h
  split
  · rename_i hk
    rw [if_pos hk] at h
    exact absurd rfl h
  · dsimp only; exact ⟨rfl, by omega, by omega⟩
/-- What is read without a fault. -/
theorem vxR_ok {b : List Int} (hy : ∀ y ∈ b, isY y) (h : (vxR b).2.1 = 0) : (vxR b).2.2 = 0 ∧ (vxR b).1.wf ∧ vxC (vxR b).1 = 0 ∧ vxB (vxR b).1 = b := by
  unfold vxR at h ⊢
  split
  · rename_i h36; rw [if_pos h36] at h; cases h
  rename_i h36
  rw [if_neg h36] at h
  split
  · rename_i h9; rw [if_pos h9] at h; cases h
  rename_i h9
  rw [if_neg h9] at h
  split
  · rename_i h22; rw [if_pos h22] at h; cases h
  rename_i h22
  rw [if_neg h22] at h
  unfold vxF at h ⊢
  split
  · rename_i hf; rw [if_pos hf] at h; exact absurd h hf
  rename_i hf
  rw [if_neg hf] at h
  split
  · rename_i hk
    exact ⟨rfl, vxD_wf hy (pkR_wf fun y hm => hy y (List.mem_of_mem_drop hm)), hk.1, hk.2⟩
  · rename_i hk; rw [if_neg hk] at h; cases h
end Go.Proofs.Ytjdppdoakbojcaa.Abs

/- The plain law of packets of which one byte is changed. -/
namespace Go.Proofs.Ytjdppdoakbojcaa.Abs
open Go
set_option linter.unusedVariables false
def vxM (z : Nat) : List Int := be 4789 2 ++ (be (z - 20) 2 ++ (be 0 2 ++ [8]))
theorem vxM_len (z : Nat) : (vxM z).length = 7 := by simp [vxM, be_len]
def vxA (p : S33) : List Int := ipC (36 + (pkB (inn p)).length) p.a2.toNat 17 p.a0.toNat p.a1.toNat
theorem vxA_len (p : S33) : (vxA p).length = 20 := ipC_len _ _ _ _ _
theorem vxB_form (p : S33) : vxB p = vxA p ++ (be p.a3.toNat 2 ++ (vxM (36 + (pkB (inn p)).length) ++ (be p.a5.toNat 3 ++ (be p.a4.toNat 3 ++ ([0] ++ pkB (inn p)))))) := by
  unfold vxB vxU vxM vxA
  simp only [List.append_assoc]
theorem vxB_s0 (p : S33) : sub (vxB p) 0 20 = vxA p := by
  rw [vxB_form, sub_l (by rw [vxA_len]; omega)]
  exact sub_e (vxA_len p)
theorem vxB_s22 (p : S33) : sub (vxB p) 22 7 = vxM (36 + (pkB (inn p)).length) := by
  have h1 := vxA_len p
  have h2 := be_len p.a3.toNat 2
  have h3 := vxM_len (36 + (pkB (inn p)).length)
  rw [vxB_form, sub_r (by omega), sub_r (by omega), sub_l (by omega), show 22 - (vxA p).length - (be p.a3.toNat 2).length = 0 by omega]
  exact sub_e h3
theorem vxB_s35 (p : S33) : sub (vxB p) 35 1 = [0] := by
  have h1 := vxA_len p
  have h2 := be_len p.a3.toNat 2
  have h3 := vxM_len (36 + (pkB (inn p)).length)
  have h4 := be_len p.a5.toNat 3
  have h5 := be_len p.a4.toNat 3
  rw [vxB_form, sub_r (by omega), sub_r (by omega), sub_r (by omega), sub_r (by omega), sub_r (by omega), sub_l (by simp only [List.length_cons, List.length_nil]; omega), show 35 - (vxA p).length - (be p.a3.toNat 2).length - (vxM (36 + (pkB (inn p)).length)).length - (be p.a5.toNat 3).length - (be p.a4.toNat 3).length = 0 by omega]
  exact sub_e rfl
theorem set_same {L : List Int} {i : Nat} {x v : Int} (hx : L[i]? = some x) (h : L.set i v = L) : v = x := by
  have hi : i < L.length := by
    rcases Nat.lt_or_ge i L.length with h1 | h1
    · exact h1
    · rw [List.getElem?_eq_none h1] at hx; cases hx
  have : (L.set i v)[i]? = some v := by rw [List.getElem?_set_self hi]
  rw [h, hx] at this
  cases this; rfl
theorem set_id {L : List Int} {i : Nat} {x : Int} (hx : L[i]? = some x) : L.set i x = L := by
  apply List.ext_getElem?
  intro j
  rw [List.getElem?_set]
  split
  · rename_i e; subst e; rw [hx]; split
    · rfl
    · rename_i g; rw [List.getElem?_eq_none (by omega)] at hx; cases hx
  · rfl
theorem sub_at {L : List Int} {i k j : Nat} (h : i ≤ j) (h2 : j < i + k) : (sub L i k)[j - i]? = L[j]? := by
  unfold sub
  rw [List.getElem?_take_of_lt (by omega), List.getElem?_drop, show i + (j - i) = j by omega]
theorem vxR_set0 {p : S33} (hw : p.wf) (h : vxC p = 0) {i : Nat} (hi : i < 20 ∨ 21 < i ∧ i < 29 ∨ i = 35) {x v : Int} (hx : (vxB p)[i]? = some x) (yv : isY v) (h0 : (vxR ((vxB p).set i v)).2.1 = 0) : v = x := by
  have hy : ∀ y ∈ (vxB p).set i v, isY y := set_at hx yv (vxB_Y p)
  have yx : isY x := getY (vxB_Y p) hx
  obtain ⟨_, qw, qc, qe⟩ := vxR_ok hy h0
  generalize (vxR ((vxB p).set i v)).1 = q at *
  have hl : (vxB q).length = (vxB p).length := by rw [qe, List.length_set]
  rw [vxB_len, vxB_len] at hl
  have hz : (pkB (inn q)).length = (pkB (inn p)).length := by omega
  rcases hi with hi | hi | hi
  · have e := vxB_s0 q
    rw [qe, sub_set (by omega) (by omega)] at e
    have c1 : ck (vxA q) = 0 := ck_ipC _ _ _ _ _
    have c3 : ck (vxA p) = 0 := ck_ipC _ _ _ _ _
    have s1 : 0 < sumW (vxA q) := by
      unfold vxA ipC
      have := sumW_ipH (36 + (pkB (inn q)).length) q.a2.toNat 17 (ck (ipH (36 + (pkB (inn q)).length) q.a2.toNat 17 0 q.a0.toNat q.a1.toNat)) q.a0.toNat q.a1.toNat (ck_lt _)
      omega
    have s3 : 0 < sumW (vxA p) := by
      unfold vxA ipC
      have := sumW_ipH (36 + (pkB (inn p)).length) p.a2.toNat 17 (ck (ipH (36 + (pkB (inn p)).length) p.a2.toNat 17 0 p.a0.toNat p.a1.toNat)) p.a0.toNat p.a1.toNat (ck_lt _)
      omega
    rw [ck_zero s1] at c1
    rw [ck_zero s3] at c3
    have hx2 : (sub (vxB p) 0 20)[i - 0]? = some x := by rw [sub_at (by omega) (by omega), hx]
    have := sumW_set _ (i - 0) x v hx2
    rw [e, vxB_s0] at this
    unfold isY at yx yv
    have hxn : x.toNat < 256 := by omega
    have hvn : v.toNat < 256 := by omega
    split at this <;> omega
  · have e := vxB_s22 q
    rw [qe, sub_set (by omega) (by omega), hz, ← vxB_s22] at e
    exact set_same (by rw [sub_at (by omega) (by omega), hx]) e
  · have e := vxB_s35 q
    rw [qe, sub_set (by omega) (by omega), ← vxB_s35 p] at e
    exact set_same (by rw [sub_at (by omega) (by omega), hx]) e
theorem num_lim {L : List Int} {k : Nat} (h : ∀ y ∈ L, isY y) (hl : L.length = k) : num L < 256 ^ k := by
  have := num_lt h
  rwa [hl] at this
theorem be_numk {L : List Int} {k : Nat} (h : ∀ y ∈ L, isY y) (hl : L.length = k) : be (num L) k = L := by
  have := be_num h
  rwa [hl] at this
theorem vxB_ext {p q : S33} (h0 : q.a0 = p.a0) (h1 : q.a1 = p.a1) (h2 : q.a2 = p.a2) (hi : inn q = inn p) : vxA q = vxA p := by unfold vxA; rw [h0, h1, h2, hi]
theorem vxR_set1 {p : S33} (hw : p.wf) (h : vxC p = 0) {i : Nat} (hi : i < 36) (hi2 : ¬ (i < 20 ∨ 21 < i ∧ i < 29 ∨ i = 35)) {x v : Int} (hx : (vxB p)[i]? = some x) (yv : isY v) (hne : v ≠ x) : ∃ q, vxR ((vxB p).set i v) = (q, 0, 0) ∧ leafsEq (en33 q) (en33 p) = false := by
  have hk : ¬ (p.a2 < 0 ∨ p.a2 > 255 ∨ p.a3 < 0 ∨ p.a3 > 65535 ∨ p.a4 > 16777215 ∨ p.a5 > 16777215) := fun g => by unfold vxC at h; rw [if_pos g] at h; cases h
  have hin : pkC (inn p) = 0 := by have g := h; unfold vxC at g; rwa [if_neg hk] at g
  have l1 := vxA_len p
  have l2 := be_len p.a3.toNat 2
  have l3 := vxM_len (36 + (pkB (inn p)).length)
  have l4 := be_len p.a5.toNat 3
  have l5 := be_len p.a4.toNat 3
  have hw' := hw
  unfold S33.wf at hw'
  have hform := vxB_form p
  by_cases h22 : i < 22
  · have hy : ∀ y ∈ (be p.a3.toNat 2).set (i - 20) v, isY y := fun y hy => by
      rcases List.mem_or_eq_of_mem_set hy with g | g
      · exact be_Y _ _ y g
      · subst g; exact yv
    have hlim := num_lim (k := 2) hy (by rw [List.length_set, l2])
    have hbe := be_numk (k := 2) hy (by rw [List.length_set, l2])
    have hsame := set_same (L := be p.a3.toNat 2) (i := i - 20) (x := x) (v := v) (by
      rw [hform, List.getElem?_append_right (by omega), List.getElem?_append_left (by omega), l1] at hx
      exact hx)
    generalize num ((be p.a3.toNat 2).set (i - 20) v) = m at *
    refine ⟨{ p with a3 := m }, ?_, ?_⟩
    · have e : (vxB p).set i v = vxB { p with a3 := m } := by
        rw [hform, vxB_form { p with a3 := m }, List.set_append_right _ _ (by omega), List.set_append_left _ _ (by omega), l1, ← hbe]
        rfl
      rw [e]
      refine vxR_B ?_ ?_
      · unfold S33.wf; dsimp only; simp only [hw', and_true, true_and]; omega
      · unfold vxC; dsimp only; rw [if_neg (by omega)]; exact hin
    · have : (m : Int) ≠ p.a3 := fun e => hne (hsame (by rw [← hbe, ← e]; rfl))
      unfold en33
      simp [leafsEq, leaf0, this]
  by_cases h32 : i < 32
  · have hy : ∀ y ∈ (be p.a5.toNat 3).set (i - 29) v, isY y := fun y hy => by
      rcases List.mem_or_eq_of_mem_set hy with g | g
      · exact be_Y _ _ y g
      · subst g; exact yv
    have hlim := num_lim (k := 3) hy (by rw [List.length_set, l4])
    have hbe := be_numk (k := 3) hy (by rw [List.length_set, l4])
    have hsame := set_same (L := be p.a5.toNat 3) (i := i - 29) (x := x) (v := v) (by
      rw [hform, List.getElem?_append_right (by omega), List.getElem?_append_right (by omega), List.getElem?_append_right (by omega), List.getElem?_append_left (by omega), l1, l2, l3, show i - 20 - 2 - 7 = i - 29 by omega] at hx
      exact hx)
    generalize num ((be p.a5.toNat 3).set (i - 29) v) = m at *
    refine ⟨{ p with a5 := m }, ?_, ?_⟩
    · have e : (vxB p).set i v = vxB { p with a5 := m } := by
        rw [hform, vxB_form { p with a5 := m }, List.set_append_right _ _ (by omega), List.set_append_right _ _ (by omega), List.set_append_right _ _ (by omega), List.set_append_left _ _ (by omega), l1, l2, l3, show i - 20 - 2 - 7 = i - 29 by omega, ← hbe]
        rfl
      rw [e]
      refine vxR_B ?_ ?_
      · unfold S33.wf; dsimp only; simp only [hw', and_true, true_and]; omega
      · unfold vxC; dsimp only; rw [if_neg (by omega)]; exact hin
    · have : (m : Int) ≠ p.a5 := fun e => hne (hsame (by rw [← hbe, ← e]; rfl))
      unfold en33
      simp [leafsEq, leaf0, this]
  · have hy : ∀ y ∈ (be p.a4.toNat 3).set (i - 32) v, isY y := fun y hy => by
      rcases List.mem_or_eq_of_mem_set hy with g | g
      · exact be_Y _ _ y g
      · subst g; exact yv
    have hlim := num_lim (k := 3) hy (by rw [List.length_set, l5])
    have hbe := be_numk (k := 3) hy (by rw [List.length_set, l5])
    have hsame := set_same (L := be p.a4.toNat 3) (i := i - 32) (x := x) (v := v) (by
      rw [hform, List.getElem?_append_right (by omega), List.getElem?_append_right (by omega), List.getElem?_append_right (by omega), List.getElem?_append_right (by omega), List.getElem?_append_left (by omega), l1, l2, l3, l4, show i - 20 - 2 - 7 - 3 = i - 32 by omega] at hx
      exact hx)
    generalize num ((be p.a4.toNat 3).set (i - 32) v) = m at *
    refine ⟨{ p with a4 := m }, ?_, ?_⟩
    · have e : (vxB p).set i v = vxB { p with a4 := m } := by
        rw [hform, vxB_form { p with a4 := m }, List.set_append_right _ _ (by omega), List.set_append_right _ _ (by omega), List.set_append_right _ _ (by omega), List.set_append_right _ _ (by omega), List.set_append_left _ _ (by omega), l1, l2, l3, l4, show i - 20 - 2 - 7 - 3 = i - 32 by omega, ← hbe]
        rfl
      rw [e]
      refine vxR_B ?_ ?_
      · unfold S33.wf; dsimp only; simp only [hw', and_true, true_and]; omega
      · unfold vxC; dsimp only; rw [if_neg (by omega)]; exact hin
    · have : (m : Int) ≠ p.a4 := fun e => hne (hsame (by rw [← hbe, ← e]; rfl))
      unfold en33
      simp [leafsEq, leaf0, this]
theorem vxR_set2 {p : S33} (hw : p.wf) (h : vxC p = 0) {i : Nat} {x : Int} (hx : (vxB p)[i]? = some x) : vxR ((vxB p).set i x) = (p, 0, 0) := by rw [set_id hx, vxR_B hw h]
end Go.Proofs.Ytjdppdoakbojcaa.Abs

/- The contract of the statement VxlanChanges. -/
namespace Go.Proofs.Ytjdppdoakbojcaa.Abs
open Go
set_option linter.unusedVariables false
theorem vx_e1 {y : Nat} (hi : y < 20 ∨ 21 < y ∧ y < 29 ∨ y = 35) (g1 : ¬ (y : Int) < 20) (g3 : ¬ (y : Int) < 29) (g4 : (y : Int) ≠ 35) : False := by omega
theorem vx_e2 {y : Nat} (hi : y < 20 ∨ 21 < y ∧ y < 29 ∨ y = 35) (g1 : ¬ (y : Int) < 20) (g2 : ¬ (y : Int) > 21) (g4 : (y : Int) ≠ 35) : False := by omega
theorem vx_e3 {y : Nat} (hi : ¬ (y < 20 ∨ 21 < y ∧ y < 29 ∨ y = 35)) (g1 : (y : Int) < 20) : False := by omega
theorem vx_e4 {y : Nat} (hi : ¬ (y < 20 ∨ 21 < y ∧ y < 29 ∨ y = 35)) (g2 : (y : Int) > 21) (g3 : (y : Int) < 29) : False := by omega
theorem vx_e5 {y : Nat} (hi : ¬ (y < 20 ∨ 21 < y ∧ y < 29 ∨ y = 35)) (g4 : (y : Int) = 35) : False := by omega
section
variable {B0 : Nat} {old : Nat → Option (List Value)} {n : Nat} {H : Hp} {Q : Value → Hp → Prop}
set_option maxRecDepth 10000
set_option maxHeartbeats 8000000
theorem vlaw8_ct (p : S33) (hw : p.wf) (k val : Int) (hk : -9223372036854775808 ≤ k ∧ k ≤ 9223372036854775807) (hv : isY val) (hQ : ∀ H', Q (.bool true) H') :
    CallT (cx B0 old) (acall (cx B0 old) ansP (n + 12)) 8 [.agg ⟨en33 p⟩, .int .i64 k, .int .u8 val] H Q := by
  have hQb : ∀ (b : Bool) H', b = true → Q (.bool b) H' := fun b H' e => by rw [e]; exact hQ _
  have hb1 : ∀ {H1 : Hp} {Θ : Value → Hp → Prop}, (vxC p ≠ 0 → Θ (.tuple #[.slice none 0 0, .int .i64 (vxC p)]) H1) → (vxC p = 0 → ∀ v G, Own encY 1 (vxB p) v G → Θ (.tuple #[v, .int .i64 0]) (G ++ H1)) → CallT (cx B0 old) (acall (cx B0 old) ansP (n + 11)) 21 [.agg ⟨en33 p⟩] H1 Θ := fun a b => bytes21_ct p hw a b
  have hE := leaf33b p
  have hZ : leafsEq (en33 vxZ) (en33 vxZ) = true := leaf33b vxZ
  refine call_in3 86 rfl Try.func8 rfl rfl ?_
  unfold en33 at hb1 hE hZ ⊢
  unfold vxZ at hZ
  repeat (first | (first | refine rt_nil ?_ | (refine isRun ?_; first | refine x1 ?_ | refine x2 ?_ | refine x3 fun _ => ?_ | refine x4 fun _ => ?_ | refine x5 fun _ => ?_ | (refine rt_step rfl rfl rfl ?_; first | refine st_buildSlice rfl (zr rfl) rfl rfl rfl rfl rfl rfl fun _ => ?_ | refine st_A rfl rfl (fun _ => rfl) rfl fun _ => ?_) | refine x8 ?_ | refine rt_skip rfl rfl rfl ?_ | refine rt_skip0 rfl rfl ?_)) | (first | refine sq_n ?_ | refine sq_r ?_ | refine sq_e ?_ | refine bk_n ?_ | refine bk_r ?_ | refine bk_e rfl ?_ | refine bk_x rfl ?_ | refine ct_seq ?_ | refine ct_region rfl ?_ | refine ct_skip ?_ | refine ct_label ?_ | refine ct_block ?_ | refine ct_exit ?_ | refine ct_ret ?_ | refine ct_scope ?_ | refine ct_true rfl ?_ | refine ct_false rfl ?_ | refine lt_step ?_))
  refine rt_step rfl rfl rfl (st_call rfl rfl rfl rfl (call_ext rfl ?_))
  repeat (first | (first | refine rt_nil ?_ | (refine isRun ?_; first | refine x1 ?_ | refine x2 ?_ | refine x3 fun _ => ?_ | refine x4 fun _ => ?_ | refine x5 fun _ => ?_ | (refine rt_step rfl rfl rfl ?_; first | refine st_buildSlice rfl (zr rfl) rfl rfl rfl rfl rfl rfl fun _ => ?_ | refine st_A rfl rfl (fun _ => rfl) rfl fun _ => ?_) | refine x8 ?_ | refine rt_skip rfl rfl rfl ?_ | refine rt_skip0 rfl rfl ?_)) | (first | refine sq_n ?_ | refine sq_r ?_ | refine sq_e ?_ | refine bk_n ?_ | refine bk_r ?_ | refine bk_e rfl ?_ | refine bk_x rfl ?_ | refine ct_seq ?_ | refine ct_region rfl ?_ | refine ct_skip ?_ | refine ct_label ?_ | refine ct_block ?_ | refine ct_exit ?_ | refine ct_ret ?_ | refine ct_scope ?_ | refine ct_true rfl ?_ | refine ct_false rfl ?_ | refine lt_step ?_))
  refine rt_step rfl rfl rfl (st_call rfl rfl rfl rfl (hb1 (fun hne => ?_) (fun h0 v G ho => ?_)))
  · repeat (first | (first | refine rt_nil ?_ | (refine isRun ?_; first | refine x1 ?_ | refine x2 ?_ | refine x3 fun _ => ?_ | refine x4 fun _ => ?_ | refine x5 fun _ => ?_ | (refine rt_step rfl rfl rfl ?_; first | refine st_buildSlice rfl (zr rfl) rfl rfl rfl rfl rfl rfl fun _ => ?_ | refine st_A rfl rfl (fun _ => rfl) rfl fun _ => ?_) | refine x8 ?_ | refine rt_skip rfl rfl rfl ?_ | refine rt_skip0 rfl rfl ?_)) | (first | refine sq_n ?_ | refine sq_r ?_ | refine sq_e ?_ | refine bk_n ?_ | refine bk_r ?_ | refine bk_e rfl ?_ | refine bk_x rfl ?_ | refine ct_seq ?_ | refine ct_region rfl ?_ | refine ct_skip ?_ | refine ct_label ?_ | refine ct_block ?_ | refine ct_exit ?_ | refine ct_ret ?_ | refine ct_scope ?_ | refine ct_true rfl ?_ | refine ct_false rfl ?_ | refine lt_step ?_))
    refine isRun ?_
    refine z1 (fun hc => ?_) (fun hc => absurd hc hne)
    repeat (first | (first | refine rt_nil ?_ | (refine isRun ?_; first | refine x1 ?_ | refine x2 ?_ | refine x3 fun _ => ?_ | refine x4 fun _ => ?_ | refine x5 fun _ => ?_ | (refine rt_step rfl rfl rfl ?_; first | refine st_buildSlice rfl (zr rfl) rfl rfl rfl rfl rfl rfl fun _ => ?_ | refine st_A rfl rfl (fun _ => rfl) rfl fun _ => ?_) | refine x8 ?_ | refine rt_skip rfl rfl rfl ?_ | refine rt_skip0 rfl rfl ?_)) | (first | refine sq_n ?_ | refine sq_r ?_ | refine sq_e ?_ | refine bk_n ?_ | refine bk_r ?_ | refine bk_e rfl ?_ | refine bk_x rfl ?_ | refine ct_seq ?_ | refine ct_region rfl ?_ | refine ct_skip ?_ | refine ct_label ?_ | refine ct_block ?_ | refine ct_exit ?_ | refine ct_ret ?_ | refine ct_scope ?_ | refine ct_true rfl ?_ | refine ct_false rfl ?_ | refine lt_step ?_))
    exact re_1 rfl rfl (List.Sublist.refl _) (hQb _ _ (by simp [hne]))
  obtain ⟨a1, c1, e1, g1⟩ := ho.arrW (C := cx B0 old) encY_len
  have hcv : ∀ X, CutV (cx B0 old) (G ++ X) encY 1 (vxB p) v := fun X => ho.cutV (pre := []) encY_len
  have hYs := vxB_Y p
  have hlen : 36 ≤ (vxB p).length ∧ (vxB p).length ≤ 100 := by rw [vxB_len]; have := pkB_50 (inn p); omega
  subst e1
  repeat (first | (first | refine rt_nil ?_ | (refine isRun ?_; first | refine x1 ?_ | refine x2 ?_ | refine x3 fun _ => ?_ | refine x4 fun _ => ?_ | refine x5 fun _ => ?_ | (refine rt_step rfl rfl rfl ?_; first | refine st_buildSlice rfl (zr rfl) rfl rfl rfl rfl rfl rfl fun _ => ?_ | refine st_A rfl rfl (fun _ => rfl) rfl fun _ => ?_) | refine x8 ?_ | refine rt_skip rfl rfl rfl ?_ | refine rt_skip0 rfl rfl ?_)) | (first | refine sq_n ?_ | refine sq_r ?_ | refine sq_e ?_ | refine bk_n ?_ | refine bk_r ?_ | refine bk_e rfl ?_ | refine bk_x rfl ?_ | refine ct_seq ?_ | refine ct_region rfl ?_ | refine ct_skip ?_ | refine ct_label ?_ | refine ct_block ?_ | refine ct_exit ?_ | refine ct_ret ?_ | refine ct_scope ?_ | refine ct_true rfl ?_ | refine ct_false rfl ?_ | refine lt_step ?_))
  refine rt_step rfl rfl rfl (st_call rfl rfl rfl rfl (pick33_ct k 36 (by decide) (by decide) hk fun y hyl => ?_))
  have hyl : y < 36 := by omega
  obtain ⟨x, hx⟩ : ∃ x, (vxB p)[y]? = some x := ⟨_, List.getElem?_eq_getElem (by omega)⟩
  have hxy := getY hYs hx
  obtain ⟨G2, o2, b1, c3, e4, hst⟩ := ho.set (C := cx B0 old) (t := 5) (f := 0) (a' := val) (u := .int .u8 val) encY_len hx (sz rfl) rfl rfl
  cases e4
  have hL0 : ∀ X, ∀ H', (G ++ X).Sublist H' → LdT (cx B0 old) 5 H' b1 (0 + (y : Int).toNat * 1) (.int .u8 x) := fun X H' hs => by
    obtain ⟨bb, oo, e5, hL⟩ := ((g1 [] X).arr encY_len).ld1 5 hx rfl rfl (sz rfl)
    cases e5
    rw [show (y : Int).toNat = y by omega]
    exact hL H' hs
  have hL0 := hL0 H
  repeat (first | (first | refine rt_nil ?_ | (refine isRun ?_; first | refine x1 ?_ | refine x2 ?_ | refine x3 fun _ => ?_ | refine x4 fun _ => ?_ | refine x5 fun _ => ?_ | (refine rt_step rfl rfl rfl ?_; first | refine st_buildSlice rfl (zr rfl) rfl rfl rfl rfl rfl rfl fun _ => ?_ | refine st_A rfl rfl (fun _ => rfl) rfl fun _ => ?_) | refine x8 ?_ | refine rt_skip rfl rfl rfl ?_ | refine rt_skip0 rfl rfl ?_)) | (first | refine sq_n ?_ | refine sq_r ?_ | refine sq_e ?_ | refine bk_n ?_ | refine bk_r ?_ | refine bk_e rfl ?_ | refine bk_x rfl ?_ | refine ct_seq ?_ | refine ct_region rfl ?_ | refine ct_skip ?_ | refine ct_label ?_ | refine ct_block ?_ | refine ct_exit ?_ | refine ct_ret ?_ | refine ct_scope ?_ | refine ct_true rfl ?_ | refine ct_false rfl ?_ | refine lt_step ?_))
  refine rt_st rfl rfl rfl rfl rfl (hst [] _) ?_
  clear hL0
  have hY2 := set_at hx hv hYs
  have hcv2 : ∀ X, CutV (cx B0 old) (G2 ++ X) encY 1 ((vxB p).set y val) (.slice (some ⟨b1, 0, none⟩) (vxB p).length c1) := fun X => o2.cutV (pre := []) encY_len
  have hrd : ∀ {H1 : Hp} {Θ : Value → Hp → Prop}, CutV (cx B0 old) H1 encY 1 ((vxB p).set y val) (.slice (some ⟨b1, 0, none⟩) (vxB p).length c1) → Θ (vxV (vxR ((vxB p).set y val))) H1 → CallT (cx B0 old) (acall (cx B0 old) ansP (n + 11)) 29 [.slice (some ⟨b1, 0, none⟩) (vxB p).length c1] H1 Θ := fun h g => vread29_ct h hY2 (by rw [List.length_set]; omega) g
  by_cases hvx : val = x
  · subst hvx
    rw [vxR_set2 hw h0 hx] at hrd
    unfold vxV en33 at hrd
    repeat (first | (first | refine rt_nil ?_ | (refine isRun ?_; first | refine x1 ?_ | refine x2 ?_ | refine x3 fun _ => ?_ | refine x4 fun _ => ?_ | refine x5 fun _ => ?_ | (refine rt_step rfl rfl rfl ?_; first | refine st_buildSlice rfl (zr rfl) rfl rfl rfl rfl rfl rfl fun _ => ?_ | refine st_A rfl rfl (fun _ => rfl) rfl fun _ => ?_) | refine x8 ?_ | refine rt_skip rfl rfl rfl ?_ | refine rt_skip0 rfl rfl ?_)) | (first | refine sq_n ?_ | refine sq_r ?_ | refine sq_e ?_ | refine bk_n ?_ | refine bk_r ?_ | refine bk_e rfl ?_ | refine bk_x rfl ?_ | refine ct_seq ?_ | refine ct_region rfl ?_ | refine ct_skip ?_ | refine ct_label ?_ | refine ct_block ?_ | refine ct_exit ?_ | refine ct_ret ?_ | refine ct_scope ?_ | refine ct_true rfl ?_ | refine ct_false rfl ?_ | refine lt_step ?_))
    refine rt_step rfl rfl rfl (st_call rfl rfl rfl rfl (hrd (hcv2 _) ?_))
    repeat (first | (first | refine rt_nil ?_ | (refine isRun ?_; first | refine x1 ?_ | refine x2 ?_ | refine x3 fun _ => ?_ | refine x4 fun _ => ?_ | refine x5 fun _ => ?_ | (refine rt_step rfl rfl rfl ?_; first | refine st_buildSlice rfl (zr rfl) rfl rfl rfl rfl rfl rfl fun _ => ?_ | refine st_A rfl rfl (fun _ => rfl) rfl fun _ => ?_) | refine x8 ?_ | refine rt_skip rfl rfl rfl ?_ | refine rt_skip0 rfl rfl ?_)) | (first | refine sq_n ?_ | refine sq_r ?_ | refine sq_e ?_ | refine bk_n ?_ | refine bk_r ?_ | refine bk_e rfl ?_ | refine bk_x rfl ?_ | refine ct_seq ?_ | refine ct_region rfl ?_ | refine ct_skip ?_ | refine ct_label ?_ | refine ct_block ?_ | refine ct_exit ?_ | refine ct_ret ?_ | refine ct_scope ?_ | refine ct_true rfl ?_ | refine ct_false rfl ?_ | refine lt_step ?_))
    refine ct_condT te_e rfl (fun hc => ?_) (fun hc => absurd rfl hc)
    repeat (first | (first | refine rt_nil ?_ | (refine isRun ?_; first | refine x1 ?_ | refine x2 ?_ | refine x3 fun _ => ?_ | refine x4 fun _ => ?_ | refine x5 fun _ => ?_ | (refine rt_step rfl rfl rfl ?_; first | refine st_buildSlice rfl (zr rfl) rfl rfl rfl rfl rfl rfl fun _ => ?_ | refine st_A rfl rfl (fun _ => rfl) rfl fun _ => ?_) | refine x8 ?_ | refine rt_skip rfl rfl rfl ?_ | refine rt_skip0 rfl rfl ?_)) | (first | refine sq_n ?_ | refine sq_r ?_ | refine sq_e ?_ | refine bk_n ?_ | refine bk_r ?_ | refine bk_e rfl ?_ | refine bk_x rfl ?_ | refine ct_seq ?_ | refine ct_region rfl ?_ | refine ct_skip ?_ | refine ct_label ?_ | refine ct_block ?_ | refine ct_exit ?_ | refine ct_ret ?_ | refine ct_scope ?_ | refine ct_true rfl ?_ | refine ct_false rfl ?_ | refine lt_step ?_))
    rw [hE]
    repeat (first | (first | refine rt_nil ?_ | (refine isRun ?_; first | refine x1 ?_ | refine x2 ?_ | refine x3 fun _ => ?_ | refine x4 fun _ => ?_ | refine x5 fun _ => ?_ | (refine rt_step rfl rfl rfl ?_; first | refine st_buildSlice rfl (zr rfl) rfl rfl rfl rfl rfl rfl fun _ => ?_ | refine st_A rfl rfl (fun _ => rfl) rfl fun _ => ?_) | refine x8 ?_ | refine rt_skip rfl rfl rfl ?_ | refine rt_skip0 rfl rfl ?_)) | (first | refine sq_n ?_ | refine sq_r ?_ | refine sq_e ?_ | refine bk_n ?_ | refine bk_r ?_ | refine bk_e rfl ?_ | refine bk_x rfl ?_ | refine ct_seq ?_ | refine ct_region rfl ?_ | refine ct_skip ?_ | refine ct_label ?_ | refine ct_block ?_ | refine ct_exit ?_ | refine ct_ret ?_ | refine ct_scope ?_ | refine ct_true rfl ?_ | refine ct_false rfl ?_ | refine lt_step ?_))
    exact re_1 rfl rfl (List.Sublist.refl _) (hQ _)
  by_cases hi : y < 20 ∨ 21 < y ∧ y < 29 ∨ y = 35
  · have hbad : (vxR ((vxB p).set y val)).2.1 ≠ 0 := fun h => hvx (vxR_set0 hw h0 hi hx hv h)
    have hz := (vxR_bad hbad).1
    generalize vxR ((vxB p).set y val) = r at *
    obtain ⟨q, er, ea⟩ := r
    dsimp only at hbad hz hrd
    subst hz
    unfold vxV en33 vxZ at hrd
    dsimp only at hrd
    repeat (first | (first | refine rt_nil ?_ | (refine isRun ?_; first | refine x1 ?_ | refine x2 ?_ | refine x3 fun _ => ?_ | refine x4 fun _ => ?_ | refine x5 fun _ => ?_ | (refine rt_step rfl rfl rfl ?_; first | refine st_buildSlice rfl (zr rfl) rfl rfl rfl rfl rfl rfl fun _ => ?_ | refine st_A rfl rfl (fun _ => rfl) rfl fun _ => ?_) | refine x8 ?_ | refine rt_skip rfl rfl rfl ?_ | refine rt_skip0 rfl rfl ?_)) | (first | refine sq_n ?_ | refine sq_r ?_ | refine sq_e ?_ | refine bk_n ?_ | refine bk_r ?_ | refine bk_e rfl ?_ | refine bk_x rfl ?_ | refine ct_seq ?_ | refine ct_region rfl ?_ | refine ct_skip ?_ | refine ct_label ?_ | refine ct_block ?_ | refine ct_exit ?_ | refine ct_ret ?_ | refine ct_scope ?_ | refine ct_true rfl ?_ | refine ct_false rfl ?_ | refine lt_step ?_))
    refine rt_step rfl rfl rfl (st_call rfl rfl rfl rfl (hrd (hcv2 _) ?_))
    repeat (first | (first | refine rt_nil ?_ | (refine isRun ?_; first | refine x1 ?_ | refine x2 ?_ | refine x3 fun _ => ?_ | refine x4 fun _ => ?_ | refine x5 fun _ => ?_ | (refine rt_step rfl rfl rfl ?_; first | refine st_buildSlice rfl (zr rfl) rfl rfl rfl rfl rfl rfl fun _ => ?_ | refine st_A rfl rfl (fun _ => rfl) rfl fun _ => ?_) | refine x8 ?_ | refine rt_skip rfl rfl rfl ?_ | refine rt_skip0 rfl rfl ?_)) | (first | refine sq_n ?_ | refine sq_r ?_ | refine sq_e ?_ | refine bk_n ?_ | refine bk_r ?_ | refine bk_e rfl ?_ | refine bk_x rfl ?_ | refine ct_seq ?_ | refine ct_region rfl ?_ | refine ct_skip ?_ | refine ct_label ?_ | refine ct_block ?_ | refine ct_exit ?_ | refine ct_ret ?_ | refine ct_scope ?_ | refine ct_true rfl ?_ | refine ct_false rfl ?_ | refine lt_step ?_))
    refine ct_condT te_e rfl (fun hc => absurd hc hvx) (fun hc => ?_)
    repeat (first | (first | refine rt_nil ?_ | (refine isRun ?_; first | refine x1 ?_ | refine x2 ?_ | refine x3 fun _ => ?_ | refine x4 fun _ => ?_ | refine x5 fun _ => ?_ | (refine rt_step rfl rfl rfl ?_; first | refine st_buildSlice rfl (zr rfl) rfl rfl rfl rfl rfl rfl fun _ => ?_ | refine st_A rfl rfl (fun _ => rfl) rfl fun _ => ?_) | refine x8 ?_ | refine rt_skip rfl rfl rfl ?_ | refine rt_skip0 rfl rfl ?_)) | (first | refine sq_n ?_ | refine sq_r ?_ | refine sq_e ?_ | refine bk_n ?_ | refine bk_r ?_ | refine bk_e rfl ?_ | refine bk_x rfl ?_ | refine ct_seq ?_ | refine ct_region rfl ?_ | refine ct_skip ?_ | refine ct_label ?_ | refine ct_block ?_ | refine ct_exit ?_ | refine ct_ret ?_ | refine ct_scope ?_ | refine ct_true rfl ?_ | refine ct_false rfl ?_ | refine lt_step ?_))
    refine isRun ?_
    refine z1 (fun g1 => ?_) (fun g1 => ?_)
    · repeat (first | (first | refine rt_nil ?_ | (refine isRun ?_; first | refine x1 ?_ | refine x2 ?_ | refine x3 fun _ => ?_ | refine x4 fun _ => ?_ | refine x5 fun _ => ?_ | (refine rt_step rfl rfl rfl ?_; first | refine st_buildSlice rfl (zr rfl) rfl rfl rfl rfl rfl rfl fun _ => ?_ | refine st_A rfl rfl (fun _ => rfl) rfl fun _ => ?_) | refine x8 ?_ | refine rt_skip rfl rfl rfl ?_ | refine rt_skip0 rfl rfl ?_)) | (first | refine sq_n ?_ | refine sq_r ?_ | refine sq_e ?_ | refine bk_n ?_ | refine bk_r ?_ | refine bk_e rfl ?_ | refine bk_x rfl ?_ | refine ct_seq ?_ | refine ct_region rfl ?_ | refine ct_skip ?_ | refine ct_label ?_ | refine ct_block ?_ | refine ct_exit ?_ | refine ct_ret ?_ | refine ct_scope ?_ | refine ct_true rfl ?_ | refine ct_false rfl ?_ | refine lt_step ?_))
      refine isRun ?_
      refine z1 (fun g => ?_) (fun g => absurd g hbad)
      repeat (first | (first | refine rt_nil ?_ | (refine isRun ?_; first | refine x1 ?_ | refine x2 ?_ | refine x3 fun _ => ?_ | refine x4 fun _ => ?_ | refine x5 fun _ => ?_ | (refine rt_step rfl rfl rfl ?_; first | refine st_buildSlice rfl (zr rfl) rfl rfl rfl rfl rfl rfl fun _ => ?_ | refine st_A rfl rfl (fun _ => rfl) rfl fun _ => ?_) | refine x8 ?_ | refine rt_skip rfl rfl rfl ?_ | refine rt_skip0 rfl rfl ?_)) | (first | refine sq_n ?_ | refine sq_r ?_ | refine sq_e ?_ | refine bk_n ?_ | refine bk_r ?_ | refine bk_e rfl ?_ | refine bk_x rfl ?_ | refine ct_seq ?_ | refine ct_region rfl ?_ | refine ct_skip ?_ | refine ct_label ?_ | refine ct_block ?_ | refine ct_exit ?_ | refine ct_ret ?_ | refine ct_scope ?_ | refine ct_true rfl ?_ | refine ct_false rfl ?_ | refine lt_step ?_))
      rw [hZ]
      repeat (first | (first | refine rt_nil ?_ | (refine isRun ?_; first | refine x1 ?_ | refine x2 ?_ | refine x3 fun _ => ?_ | refine x4 fun _ => ?_ | refine x5 fun _ => ?_ | (refine rt_step rfl rfl rfl ?_; first | refine st_buildSlice rfl (zr rfl) rfl rfl rfl rfl rfl rfl fun _ => ?_ | refine st_A rfl rfl (fun _ => rfl) rfl fun _ => ?_) | refine x8 ?_ | refine rt_skip rfl rfl rfl ?_ | refine rt_skip0 rfl rfl ?_)) | (first | refine sq_n ?_ | refine sq_r ?_ | refine sq_e ?_ | refine bk_n ?_ | refine bk_r ?_ | refine bk_e rfl ?_ | refine bk_x rfl ?_ | refine ct_seq ?_ | refine ct_region rfl ?_ | refine ct_skip ?_ | refine ct_label ?_ | refine ct_block ?_ | refine ct_exit ?_ | refine ct_ret ?_ | refine ct_scope ?_ | refine ct_true rfl ?_ | refine ct_false rfl ?_ | refine lt_step ?_))
      exact re_1 rfl rfl (List.Sublist.refl _) (hQ _)
    · repeat (first | (first | refine rt_nil ?_ | (refine isRun ?_; first | refine x1 ?_ | refine x2 ?_ | refine x3 fun _ => ?_ | refine x4 fun _ => ?_ | refine x5 fun _ => ?_ | (refine rt_step rfl rfl rfl ?_; first | refine st_buildSlice rfl (zr rfl) rfl rfl rfl rfl rfl rfl fun _ => ?_ | refine st_A rfl rfl (fun _ => rfl) rfl fun _ => ?_) | refine x8 ?_ | refine rt_skip rfl rfl rfl ?_ | refine rt_skip0 rfl rfl ?_)) | (first | refine sq_n ?_ | refine sq_r ?_ | refine sq_e ?_ | refine bk_n ?_ | refine bk_r ?_ | refine bk_e rfl ?_ | refine bk_x rfl ?_ | refine ct_seq ?_ | refine ct_region rfl ?_ | refine ct_skip ?_ | refine ct_label ?_ | refine ct_block ?_ | refine ct_exit ?_ | refine ct_ret ?_ | refine ct_scope ?_ | refine ct_true rfl ?_ | refine ct_false rfl ?_ | refine lt_step ?_))
      refine isRun ?_
      refine z1 (fun g2 => ?_) (fun g2 => ?_)
      · repeat (first | (first | refine rt_nil ?_ | (refine isRun ?_; first | refine x1 ?_ | refine x2 ?_ | refine x3 fun _ => ?_ | refine x4 fun _ => ?_ | refine x5 fun _ => ?_ | (refine rt_step rfl rfl rfl ?_; first | refine st_buildSlice rfl (zr rfl) rfl rfl rfl rfl rfl rfl fun _ => ?_ | refine st_A rfl rfl (fun _ => rfl) rfl fun _ => ?_) | refine x8 ?_ | refine rt_skip rfl rfl rfl ?_ | refine rt_skip0 rfl rfl ?_)) | (first | refine sq_n ?_ | refine sq_r ?_ | refine sq_e ?_ | refine bk_n ?_ | refine bk_r ?_ | refine bk_e rfl ?_ | refine bk_x rfl ?_ | refine ct_seq ?_ | refine ct_region rfl ?_ | refine ct_skip ?_ | refine ct_label ?_ | refine ct_block ?_ | refine ct_exit ?_ | refine ct_ret ?_ | refine ct_scope ?_ | refine ct_true rfl ?_ | refine ct_false rfl ?_ | refine lt_step ?_))
        refine isRun ?_
        refine z1 (fun g3 => ?_) (fun g3 => ?_)
        · repeat (first | (first | refine rt_nil ?_ | (refine isRun ?_; first | refine x1 ?_ | refine x2 ?_ | refine x3 fun _ => ?_ | refine x4 fun _ => ?_ | refine x5 fun _ => ?_ | (refine rt_step rfl rfl rfl ?_; first | refine st_buildSlice rfl (zr rfl) rfl rfl rfl rfl rfl rfl fun _ => ?_ | refine st_A rfl rfl (fun _ => rfl) rfl fun _ => ?_) | refine x8 ?_ | refine rt_skip rfl rfl rfl ?_ | refine rt_skip0 rfl rfl ?_)) | (first | refine sq_n ?_ | refine sq_r ?_ | refine sq_e ?_ | refine bk_n ?_ | refine bk_r ?_ | refine bk_e rfl ?_ | refine bk_x rfl ?_ | refine ct_seq ?_ | refine ct_region rfl ?_ | refine ct_skip ?_ | refine ct_label ?_ | refine ct_block ?_ | refine ct_exit ?_ | refine ct_ret ?_ | refine ct_scope ?_ | refine ct_true rfl ?_ | refine ct_false rfl ?_ | refine lt_step ?_))
          refine isRun ?_
          refine z1 (fun g => ?_) (fun g => absurd g hbad)
          repeat (first | (first | refine rt_nil ?_ | (refine isRun ?_; first | refine x1 ?_ | refine x2 ?_ | refine x3 fun _ => ?_ | refine x4 fun _ => ?_ | refine x5 fun _ => ?_ | (refine rt_step rfl rfl rfl ?_; first | refine st_buildSlice rfl (zr rfl) rfl rfl rfl rfl rfl rfl fun _ => ?_ | refine st_A rfl rfl (fun _ => rfl) rfl fun _ => ?_) | refine x8 ?_ | refine rt_skip rfl rfl rfl ?_ | refine rt_skip0 rfl rfl ?_)) | (first | refine sq_n ?_ | refine sq_r ?_ | refine sq_e ?_ | refine bk_n ?_ | refine bk_r ?_ | refine bk_e rfl ?_ | refine bk_x rfl ?_ | refine ct_seq ?_ | refine ct_region rfl ?_ | refine ct_skip ?_ | refine ct_label ?_ | refine ct_block ?_ | refine ct_exit ?_ | refine ct_ret ?_ | refine ct_scope ?_ | refine ct_true rfl ?_ | refine ct_false rfl ?_ | refine lt_step ?_))
          rw [hZ]
          repeat (first | (first | refine rt_nil ?_ | (refine isRun ?_; first | refine x1 ?_ | refine x2 ?_ | refine x3 fun _ => ?_ | refine x4 fun _ => ?_ | refine x5 fun _ => ?_ | (refine rt_step rfl rfl rfl ?_; first | refine st_buildSlice rfl (zr rfl) rfl rfl rfl rfl rfl rfl fun _ => ?_ | refine st_A rfl rfl (fun _ => rfl) rfl fun _ => ?_) | refine x8 ?_ | refine rt_skip rfl rfl rfl ?_ | refine rt_skip0 rfl rfl ?_)) | (first | refine sq_n ?_ | refine sq_r ?_ | refine sq_e ?_ | refine bk_n ?_ | refine bk_r ?_ | refine bk_e rfl ?_ | refine bk_x rfl ?_ | refine ct_seq ?_ | refine ct_region rfl ?_ | refine ct_skip ?_ | refine ct_label ?_ | refine ct_block ?_ | refine ct_exit ?_ | refine ct_ret ?_ | refine ct_scope ?_ | refine ct_true rfl ?_ | refine ct_false rfl ?_ | refine lt_step ?_))
          exact re_1 rfl rfl (List.Sublist.refl _) (hQ _)
        · repeat (first | (first | refine rt_nil ?_ | (refine isRun ?_; first | refine x1 ?_ | refine x2 ?_ | refine x3 fun _ => ?_ | refine x4 fun _ => ?_ | refine x5 fun _ => ?_ | (refine rt_step rfl rfl rfl ?_; first | refine st_buildSlice rfl (zr rfl) rfl rfl rfl rfl rfl rfl fun _ => ?_ | refine st_A rfl rfl (fun _ => rfl) rfl fun _ => ?_) | refine x8 ?_ | refine rt_skip rfl rfl rfl ?_ | refine rt_skip0 rfl rfl ?_)) | (first | refine sq_n ?_ | refine sq_r ?_ | refine sq_e ?_ | refine bk_n ?_ | refine bk_r ?_ | refine bk_e rfl ?_ | refine bk_x rfl ?_ | refine ct_seq ?_ | refine ct_region rfl ?_ | refine ct_skip ?_ | refine ct_label ?_ | refine ct_block ?_ | refine ct_exit ?_ | refine ct_ret ?_ | refine ct_scope ?_ | refine ct_true rfl ?_ | refine ct_false rfl ?_ | refine lt_step ?_))
          refine ct_condT te_e rfl (fun g4 => ?_) (fun g4 => ?_)
          · repeat (first | (first | refine rt_nil ?_ | (refine isRun ?_; first | refine x1 ?_ | refine x2 ?_ | refine x3 fun _ => ?_ | refine x4 fun _ => ?_ | refine x5 fun _ => ?_ | (refine rt_step rfl rfl rfl ?_; first | refine st_buildSlice rfl (zr rfl) rfl rfl rfl rfl rfl rfl fun _ => ?_ | refine st_A rfl rfl (fun _ => rfl) rfl fun _ => ?_) | refine x8 ?_ | refine rt_skip rfl rfl rfl ?_ | refine rt_skip0 rfl rfl ?_)) | (first | refine sq_n ?_ | refine sq_r ?_ | refine sq_e ?_ | refine bk_n ?_ | refine bk_r ?_ | refine bk_e rfl ?_ | refine bk_x rfl ?_ | refine ct_seq ?_ | refine ct_region rfl ?_ | refine ct_skip ?_ | refine ct_label ?_ | refine ct_block ?_ | refine ct_exit ?_ | refine ct_ret ?_ | refine ct_scope ?_ | refine ct_true rfl ?_ | refine ct_false rfl ?_ | refine lt_step ?_))
            refine isRun ?_
            refine z1 (fun g => ?_) (fun g => absurd g hbad)
            repeat (first | (first | refine rt_nil ?_ | (refine isRun ?_; first | refine x1 ?_ | refine x2 ?_ | refine x3 fun _ => ?_ | refine x4 fun _ => ?_ | refine x5 fun _ => ?_ | (refine rt_step rfl rfl rfl ?_; first | refine st_buildSlice rfl (zr rfl) rfl rfl rfl rfl rfl rfl fun _ => ?_ | refine st_A rfl rfl (fun _ => rfl) rfl fun _ => ?_) | refine x8 ?_ | refine rt_skip rfl rfl rfl ?_ | refine rt_skip0 rfl rfl ?_)) | (first | refine sq_n ?_ | refine sq_r ?_ | refine sq_e ?_ | refine bk_n ?_ | refine bk_r ?_ | refine bk_e rfl ?_ | refine bk_x rfl ?_ | refine ct_seq ?_ | refine ct_region rfl ?_ | refine ct_skip ?_ | refine ct_label ?_ | refine ct_block ?_ | refine ct_exit ?_ | refine ct_ret ?_ | refine ct_scope ?_ | refine ct_true rfl ?_ | refine ct_false rfl ?_ | refine lt_step ?_))
            rw [hZ]
            repeat (first | (first | refine rt_nil ?_ | (refine isRun ?_; first | refine x1 ?_ | refine x2 ?_ | refine x3 fun _ => ?_ | refine x4 fun _ => ?_ | refine x5 fun _ => ?_ | (refine rt_step rfl rfl rfl ?_; first | refine st_buildSlice rfl (zr rfl) rfl rfl rfl rfl rfl rfl fun _ => ?_ | refine st_A rfl rfl (fun _ => rfl) rfl fun _ => ?_) | refine x8 ?_ | refine rt_skip rfl rfl rfl ?_ | refine rt_skip0 rfl rfl ?_)) | (first | refine sq_n ?_ | refine sq_r ?_ | refine sq_e ?_ | refine bk_n ?_ | refine bk_r ?_ | refine bk_e rfl ?_ | refine bk_x rfl ?_ | refine ct_seq ?_ | refine ct_region rfl ?_ | refine ct_skip ?_ | refine ct_label ?_ | refine ct_block ?_ | refine ct_exit ?_ | refine ct_ret ?_ | refine ct_scope ?_ | refine ct_true rfl ?_ | refine ct_false rfl ?_ | refine lt_step ?_))
            exact re_1 rfl rfl (List.Sublist.refl _) (hQ _)
          · exact (vx_e1 hi g1 g3 g4).elim
      · repeat (first | (first | refine rt_nil ?_ | (refine isRun ?_; first | refine x1 ?_ | refine x2 ?_ | refine x3 fun _ => ?_ | refine x4 fun _ => ?_ | refine x5 fun _ => ?_ | (refine rt_step rfl rfl rfl ?_; first | refine st_buildSlice rfl (zr rfl) rfl rfl rfl rfl rfl rfl fun _ => ?_ | refine st_A rfl rfl (fun _ => rfl) rfl fun _ => ?_) | refine x8 ?_ | refine rt_skip rfl rfl rfl ?_ | refine rt_skip0 rfl rfl ?_)) | (first | refine sq_n ?_ | refine sq_r ?_ | refine sq_e ?_ | refine bk_n ?_ | refine bk_r ?_ | refine bk_e rfl ?_ | refine bk_x rfl ?_ | refine ct_seq ?_ | refine ct_region rfl ?_ | refine ct_skip ?_ | refine ct_label ?_ | refine ct_block ?_ | refine ct_exit ?_ | refine ct_ret ?_ | refine ct_scope ?_ | refine ct_true rfl ?_ | refine ct_false rfl ?_ | refine lt_step ?_))
        refine ct_condT te_e rfl (fun g4 => ?_) (fun g4 => ?_)
        · repeat (first | (first | refine rt_nil ?_ | (refine isRun ?_; first | refine x1 ?_ | refine x2 ?_ | refine x3 fun _ => ?_ | refine x4 fun _ => ?_ | refine x5 fun _ => ?_ | (refine rt_step rfl rfl rfl ?_; first | refine st_buildSlice rfl (zr rfl) rfl rfl rfl rfl rfl rfl fun _ => ?_ | refine st_A rfl rfl (fun _ => rfl) rfl fun _ => ?_) | refine x8 ?_ | refine rt_skip rfl rfl rfl ?_ | refine rt_skip0 rfl rfl ?_)) | (first | refine sq_n ?_ | refine sq_r ?_ | refine sq_e ?_ | refine bk_n ?_ | refine bk_r ?_ | refine bk_e rfl ?_ | refine bk_x rfl ?_ | refine ct_seq ?_ | refine ct_region rfl ?_ | refine ct_skip ?_ | refine ct_label ?_ | refine ct_block ?_ | refine ct_exit ?_ | refine ct_ret ?_ | refine ct_scope ?_ | refine ct_true rfl ?_ | refine ct_false rfl ?_ | refine lt_step ?_))
          refine isRun ?_
          refine z1 (fun g => ?_) (fun g => absurd g hbad)
          repeat (first | (first | refine rt_nil ?_ | (refine isRun ?_; first | refine x1 ?_ | refine x2 ?_ | refine x3 fun _ => ?_ | refine x4 fun _ => ?_ | refine x5 fun _ => ?_ | (refine rt_step rfl rfl rfl ?_; first | refine st_buildSlice rfl (zr rfl) rfl rfl rfl rfl rfl rfl fun _ => ?_ | refine st_A rfl rfl (fun _ => rfl) rfl fun _ => ?_) | refine x8 ?_ | refine rt_skip rfl rfl rfl ?_ | refine rt_skip0 rfl rfl ?_)) | (first | refine sq_n ?_ | refine sq_r ?_ | refine sq_e ?_ | refine bk_n ?_ | refine bk_r ?_ | refine bk_e rfl ?_ | refine bk_x rfl ?_ | refine ct_seq ?_ | refine ct_region rfl ?_ | refine ct_skip ?_ | refine ct_label ?_ | refine ct_block ?_ | refine ct_exit ?_ | refine ct_ret ?_ | refine ct_scope ?_ | refine ct_true rfl ?_ | refine ct_false rfl ?_ | refine lt_step ?_))
          rw [hZ]
          repeat (first | (first | refine rt_nil ?_ | (refine isRun ?_; first | refine x1 ?_ | refine x2 ?_ | refine x3 fun _ => ?_ | refine x4 fun _ => ?_ | refine x5 fun _ => ?_ | (refine rt_step rfl rfl rfl ?_; first | refine st_buildSlice rfl (zr rfl) rfl rfl rfl rfl rfl rfl fun _ => ?_ | refine st_A rfl rfl (fun _ => rfl) rfl fun _ => ?_) | refine x8 ?_ | refine rt_skip rfl rfl rfl ?_ | refine rt_skip0 rfl rfl ?_)) | (first | refine sq_n ?_ | refine sq_r ?_ | refine sq_e ?_ | refine bk_n ?_ | refine bk_r ?_ | refine bk_e rfl ?_ | refine bk_x rfl ?_ | refine ct_seq ?_ | refine ct_region rfl ?_ | refine ct_skip ?_ | refine ct_label ?_ | refine ct_block ?_ | refine ct_exit ?_ | refine ct_ret ?_ | refine ct_scope ?_ | refine ct_true rfl ?_ | refine ct_false rfl ?_ | refine lt_step ?_))
          exact re_1 rfl rfl (List.Sublist.refl _) (hQ _)
        · exact (vx_e2 hi g1 g2 g4).elim
  · obtain ⟨q, hq, hne⟩ := vxR_set1 hw h0 hyl hi hx hv hvx
    rw [hq] at hrd
    unfold vxV en33 at hrd
    dsimp only at hrd
    unfold en33 at hne
    repeat (first | (first | refine rt_nil ?_ | (refine isRun ?_; first | refine x1 ?_ | refine x2 ?_ | refine x3 fun _ => ?_ | refine x4 fun _ => ?_ | refine x5 fun _ => ?_ | (refine rt_step rfl rfl rfl ?_; first | refine st_buildSlice rfl (zr rfl) rfl rfl rfl rfl rfl rfl fun _ => ?_ | refine st_A rfl rfl (fun _ => rfl) rfl fun _ => ?_) | refine x8 ?_ | refine rt_skip rfl rfl rfl ?_ | refine rt_skip0 rfl rfl ?_)) | (first | refine sq_n ?_ | refine sq_r ?_ | refine sq_e ?_ | refine bk_n ?_ | refine bk_r ?_ | refine bk_e rfl ?_ | refine bk_x rfl ?_ | refine ct_seq ?_ | refine ct_region rfl ?_ | refine ct_skip ?_ | refine ct_label ?_ | refine ct_block ?_ | refine ct_exit ?_ | refine ct_ret ?_ | refine ct_scope ?_ | refine ct_true rfl ?_ | refine ct_false rfl ?_ | refine lt_step ?_))
    refine rt_step rfl rfl rfl (st_call rfl rfl rfl rfl (hrd (hcv2 _) ?_))
    repeat (first | (first | refine rt_nil ?_ | (refine isRun ?_; first | refine x1 ?_ | refine x2 ?_ | refine x3 fun _ => ?_ | refine x4 fun _ => ?_ | refine x5 fun _ => ?_ | (refine rt_step rfl rfl rfl ?_; first | refine st_buildSlice rfl (zr rfl) rfl rfl rfl rfl rfl rfl fun _ => ?_ | refine st_A rfl rfl (fun _ => rfl) rfl fun _ => ?_) | refine x8 ?_ | refine rt_skip rfl rfl rfl ?_ | refine rt_skip0 rfl rfl ?_)) | (first | refine sq_n ?_ | refine sq_r ?_ | refine sq_e ?_ | refine bk_n ?_ | refine bk_r ?_ | refine bk_e rfl ?_ | refine bk_x rfl ?_ | refine ct_seq ?_ | refine ct_region rfl ?_ | refine ct_skip ?_ | refine ct_label ?_ | refine ct_block ?_ | refine ct_exit ?_ | refine ct_ret ?_ | refine ct_scope ?_ | refine ct_true rfl ?_ | refine ct_false rfl ?_ | refine lt_step ?_))
    refine ct_condT te_e rfl (fun hc => absurd hc hvx) (fun hc => ?_)
    repeat (first | (first | refine rt_nil ?_ | (refine isRun ?_; first | refine x1 ?_ | refine x2 ?_ | refine x3 fun _ => ?_ | refine x4 fun _ => ?_ | refine x5 fun _ => ?_ | (refine rt_step rfl rfl rfl ?_; first | refine st_buildSlice rfl (zr rfl) rfl rfl rfl rfl rfl rfl fun _ => ?_ | refine st_A rfl rfl (fun _ => rfl) rfl fun _ => ?_) | refine x8 ?_ | refine rt_skip rfl rfl rfl ?_ | refine rt_skip0 rfl rfl ?_)) | (first | refine sq_n ?_ | refine sq_r ?_ | refine sq_e ?_ | refine bk_n ?_ | refine bk_r ?_ | refine bk_e rfl ?_ | refine bk_x rfl ?_ | refine ct_seq ?_ | refine ct_region rfl ?_ | refine ct_skip ?_ | refine ct_label ?_ | refine ct_block ?_ | refine ct_exit ?_ | refine ct_ret ?_ | refine ct_scope ?_ | refine ct_true rfl ?_ | refine ct_false rfl ?_ | refine lt_step ?_))
    refine isRun ?_
    refine z1 (fun g1 => ?_) (fun g1 => ?_)
    · exact (vx_e3 hi g1).elim
    · repeat (first | (first | refine rt_nil ?_ | (refine isRun ?_; first | refine x1 ?_ | refine x2 ?_ | refine x3 fun _ => ?_ | refine x4 fun _ => ?_ | refine x5 fun _ => ?_ | (refine rt_step rfl rfl rfl ?_; first | refine st_buildSlice rfl (zr rfl) rfl rfl rfl rfl rfl rfl fun _ => ?_ | refine st_A rfl rfl (fun _ => rfl) rfl fun _ => ?_) | refine x8 ?_ | refine rt_skip rfl rfl rfl ?_ | refine rt_skip0 rfl rfl ?_)) | (first | refine sq_n ?_ | refine sq_r ?_ | refine sq_e ?_ | refine bk_n ?_ | refine bk_r ?_ | refine bk_e rfl ?_ | refine bk_x rfl ?_ | refine ct_seq ?_ | refine ct_region rfl ?_ | refine ct_skip ?_ | refine ct_label ?_ | refine ct_block ?_ | refine ct_exit ?_ | refine ct_ret ?_ | refine ct_scope ?_ | refine ct_true rfl ?_ | refine ct_false rfl ?_ | refine lt_step ?_))
      refine isRun ?_
      refine z1 (fun g2 => ?_) (fun g2 => ?_)
      · repeat (first | (first | refine rt_nil ?_ | (refine isRun ?_; first | refine x1 ?_ | refine x2 ?_ | refine x3 fun _ => ?_ | refine x4 fun _ => ?_ | refine x5 fun _ => ?_ | (refine rt_step rfl rfl rfl ?_; first | refine st_buildSlice rfl (zr rfl) rfl rfl rfl rfl rfl rfl fun _ => ?_ | refine st_A rfl rfl (fun _ => rfl) rfl fun _ => ?_) | refine x8 ?_ | refine rt_skip rfl rfl rfl ?_ | refine rt_skip0 rfl rfl ?_)) | (first | refine sq_n ?_ | refine sq_r ?_ | refine sq_e ?_ | refine bk_n ?_ | refine bk_r ?_ | refine bk_e rfl ?_ | refine bk_x rfl ?_ | refine ct_seq ?_ | refine ct_region rfl ?_ | refine ct_skip ?_ | refine ct_label ?_ | refine ct_block ?_ | refine ct_exit ?_ | refine ct_ret ?_ | refine ct_scope ?_ | refine ct_true rfl ?_ | refine ct_false rfl ?_ | refine lt_step ?_))
        refine isRun ?_
        refine z1 (fun g3 => ?_) (fun g3 => ?_)
        · exact (vx_e4 hi g2 g3).elim
        · repeat (first | (first | refine rt_nil ?_ | (refine isRun ?_; first | refine x1 ?_ | refine x2 ?_ | refine x3 fun _ => ?_ | refine x4 fun _ => ?_ | refine x5 fun _ => ?_ | (refine rt_step rfl rfl rfl ?_; first | refine st_buildSlice rfl (zr rfl) rfl rfl rfl rfl rfl rfl fun _ => ?_ | refine st_A rfl rfl (fun _ => rfl) rfl fun _ => ?_) | refine x8 ?_ | refine rt_skip rfl rfl rfl ?_ | refine rt_skip0 rfl rfl ?_)) | (first | refine sq_n ?_ | refine sq_r ?_ | refine sq_e ?_ | refine bk_n ?_ | refine bk_r ?_ | refine bk_e rfl ?_ | refine bk_x rfl ?_ | refine ct_seq ?_ | refine ct_region rfl ?_ | refine ct_skip ?_ | refine ct_label ?_ | refine ct_block ?_ | refine ct_exit ?_ | refine ct_ret ?_ | refine ct_scope ?_ | refine ct_true rfl ?_ | refine ct_false rfl ?_ | refine lt_step ?_))
          refine ct_condT te_e rfl (fun g4 => ?_) (fun g4 => ?_)
          · exact (vx_e5 hi g4).elim
          · repeat (first | (first | refine rt_nil ?_ | (refine isRun ?_; first | refine x1 ?_ | refine x2 ?_ | refine x3 fun _ => ?_ | refine x4 fun _ => ?_ | refine x5 fun _ => ?_ | (refine rt_step rfl rfl rfl ?_; first | refine st_buildSlice rfl (zr rfl) rfl rfl rfl rfl rfl rfl fun _ => ?_ | refine st_A rfl rfl (fun _ => rfl) rfl fun _ => ?_) | refine x8 ?_ | refine rt_skip rfl rfl rfl ?_ | refine rt_skip0 rfl rfl ?_)) | (first | refine sq_n ?_ | refine sq_r ?_ | refine sq_e ?_ | refine bk_n ?_ | refine bk_r ?_ | refine bk_e rfl ?_ | refine bk_x rfl ?_ | refine ct_seq ?_ | refine ct_region rfl ?_ | refine ct_skip ?_ | refine ct_label ?_ | refine ct_block ?_ | refine ct_exit ?_ | refine ct_ret ?_ | refine ct_scope ?_ | refine ct_true rfl ?_ | refine ct_false rfl ?_ | refine lt_step ?_))
            rw [hne]
            repeat (first | (first | refine rt_nil ?_ | (refine isRun ?_; first | refine x1 ?_ | refine x2 ?_ | refine x3 fun _ => ?_ | refine x4 fun _ => ?_ | refine x5 fun _ => ?_ | (refine rt_step rfl rfl rfl ?_; first | refine st_buildSlice rfl (zr rfl) rfl rfl rfl rfl rfl rfl fun _ => ?_ | refine st_A rfl rfl (fun _ => rfl) rfl fun _ => ?_) | refine x8 ?_ | refine rt_skip rfl rfl rfl ?_ | refine rt_skip0 rfl rfl ?_)) | (first | refine sq_n ?_ | refine sq_r ?_ | refine sq_e ?_ | refine bk_n ?_ | refine bk_r ?_ | refine bk_e rfl ?_ | refine bk_x rfl ?_ | refine ct_seq ?_ | refine ct_region rfl ?_ | refine ct_skip ?_ | refine ct_label ?_ | refine ct_block ?_ | refine ct_exit ?_ | refine ct_ret ?_ | refine ct_scope ?_ | refine ct_true rfl ?_ | refine ct_false rfl ?_ | refine lt_step ?_))
            exact re_1 rfl rfl (List.Sublist.refl _) (hQ _)
      · repeat (first | (first | refine rt_nil ?_ | (refine isRun ?_; first | refine x1 ?_ | refine x2 ?_ | refine x3 fun _ => ?_ | refine x4 fun _ => ?_ | refine x5 fun _ => ?_ | (refine rt_step rfl rfl rfl ?_; first | refine st_buildSlice rfl (zr rfl) rfl rfl rfl rfl rfl rfl fun _ => ?_ | refine st_A rfl rfl (fun _ => rfl) rfl fun _ => ?_) | refine x8 ?_ | refine rt_skip rfl rfl rfl ?_ | refine rt_skip0 rfl rfl ?_)) | (first | refine sq_n ?_ | refine sq_r ?_ | refine sq_e ?_ | refine bk_n ?_ | refine bk_r ?_ | refine bk_e rfl ?_ | refine bk_x rfl ?_ | refine ct_seq ?_ | refine ct_region rfl ?_ | refine ct_skip ?_ | refine ct_label ?_ | refine ct_block ?_ | refine ct_exit ?_ | refine ct_ret ?_ | refine ct_scope ?_ | refine ct_true rfl ?_ | refine ct_false rfl ?_ | refine lt_step ?_))
        refine ct_condT te_e rfl (fun g4 => ?_) (fun g4 => ?_)
        · exact (vx_e5 hi g4).elim
        · repeat (first | (first | refine rt_nil ?_ | (refine isRun ?_; first | refine x1 ?_ | refine x2 ?_ | refine x3 fun _ => ?_ | refine x4 fun _ => ?_ | refine x5 fun _ => ?_ | (refine rt_step rfl rfl rfl ?_; first | refine st_buildSlice rfl (zr rfl) rfl rfl rfl rfl rfl rfl fun _ => ?_ | refine st_A rfl rfl (fun _ => rfl) rfl fun _ => ?_) | refine x8 ?_ | refine rt_skip rfl rfl rfl ?_ | refine rt_skip0 rfl rfl ?_)) | (first | refine sq_n ?_ | refine sq_r ?_ | refine sq_e ?_ | refine bk_n ?_ | refine bk_r ?_ | refine bk_e rfl ?_ | refine bk_x rfl ?_ | refine ct_seq ?_ | refine ct_region rfl ?_ | refine ct_skip ?_ | refine ct_label ?_ | refine ct_block ?_ | refine ct_exit ?_ | refine ct_ret ?_ | refine ct_scope ?_ | refine ct_true rfl ?_ | refine ct_false rfl ?_ | refine lt_step ?_))
          rw [hne]
          repeat (first | (first | refine rt_nil ?_ | (refine isRun ?_; first | refine x1 ?_ | refine x2 ?_ | refine x3 fun _ => ?_ | refine x4 fun _ => ?_ | refine x5 fun _ => ?_ | (refine rt_step rfl rfl rfl ?_; first | refine st_buildSlice rfl (zr rfl) rfl rfl rfl rfl rfl rfl fun _ => ?_ | refine st_A rfl rfl (fun _ => rfl) rfl fun _ => ?_) | refine x8 ?_ | refine rt_skip rfl rfl rfl ?_ | refine rt_skip0 rfl rfl ?_)) | (first | refine sq_n ?_ | refine sq_r ?_ | refine sq_e ?_ | refine bk_n ?_ | refine bk_r ?_ | refine bk_e rfl ?_ | refine bk_x rfl ?_ | refine ct_seq ?_ | refine ct_region rfl ?_ | refine ct_skip ?_ | refine ct_label ?_ | refine ct_block ?_ | refine ct_exit ?_ | refine ct_ret ?_ | refine ct_scope ?_ | refine ct_true rfl ?_ | refine ct_false rfl ?_ | refine lt_step ?_))
          exact re_1 rfl rfl (List.Sublist.refl _) (hQ _)
end
end Go.Proofs.Ytjdppdoakbojcaa.Abs
