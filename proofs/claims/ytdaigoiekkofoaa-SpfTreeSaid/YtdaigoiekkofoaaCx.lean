/- The context of this seat's symbolic runs: the program, the contract of the chapter's closed examples, the table of fields. -/
import Derived.Test.YtdaigoiekkofoaaRows
import Derived.KernelRfl
import Derived.Test.YtdaigoiekkofoaaSep4
namespace Go.Proofs.Ytdaigoiekkofoaa.Abs
open Go
/-- The closed examples answer true. -/
def extS (f : FuncId) (args : List Value) : Option Value := match Nat.beq f 12, args with
  | true, [] => some (.bool true)
  | _, _ => none
noncomputable def cx (B0 : Nat) (old : Nat → Option (List Value)) : Ctx := { P := Try.prog, B0, old, ext := extS }
def lk : List (Nat × Nat × Nat) → Nat → Nat → Option Nat
  | [], _, _ => none
  | (a, b, n) :: r, t, f => match Nat.beq a t with
    | true => (match Nat.beq b f with
      | true => some n
      | false => lk r t f)
    | false => lk r t f
def foT : List (Nat × Nat × Nat) := [(7, 0, 0), (7, 1, 1), (7, 2, 2), (7, 3, 3), (8, 0, 0), (8, 1, 1), (8, 2, 2), (8, 3, 3), (13, 0, 0), (13, 1, 1), (14, 0, 0), (14, 1, 1), (18, 0, 0), (19, 0, 0), (26, 0, 0), (26, 1, 1), (26, 2, 2), (27, 0, 0), (27, 1, 1), (27, 2, 2), (37, 0, 0), (37, 1, 1), (37, 2, 2), (38, 0, 0), (38, 1, 1), (38, 2, 2), (55, 0, 0), (55, 1, 1), (55, 2, 2), (56, 0, 0), (56, 1, 1), (56, 2, 2), (71, 0, 0), (71, 1, 1), (72, 0, 0), (72, 1, 1), (92, 0, 0), (92, 1, 1), (92, 2, 2), (92, 3, 3), (93, 0, 0), (93, 1, 1), (93, 2, 2), (93, 3, 3), (104, 0, 0), (104, 1, 1), (104, 2, 2), (104, 3, 3), (104, 4, 4), (104, 5, 5), (104, 6, 6), (104, 7, 7), (104, 8, 8), (104, 9, 9), (104, 10, 10), (105, 0, 0), (105, 1, 1), (105, 2, 2), (105, 3, 3), (105, 4, 4), (105, 5, 5), (105, 6, 6), (105, 7, 7), (105, 8, 8), (105, 9, 9), (105, 10, 10)]
theorem lk_mem : ∀ (l : List (Nat × Nat × Nat)) (t f n : Nat), lk l t f = some n → (t, f, n) ∈ l
  | [], _, _, _, h => by cases h
  | (a, b, m) :: r, t, f, n, h => by
    unfold lk at h
    split at h
    · rename_i e
      have e := Nat.eq_of_beq_eq_true e
      subst e
      split at h
      · rename_i e2
        have e2 := Nat.eq_of_beq_eq_true e2
        subst e2
        cases h
        exact List.Mem.head _
      · exact List.Mem.tail _ (lk_mem r _ _ _ h)
    · exact List.Mem.tail _ (lk_mem r _ _ _ h)
theorem foT_ok (B0 : Nat) (old : Nat → Option (List Value)) : foT.all (fun e => match fldOff (cx B0 old) e.1 e.2.1 with | some n => Nat.beq n e.2.2 | none => false) = true := by kernel_rfl
theorem ft {B0 : Nat} {old : Nat → Option (List Value)} {t f n : Nat} (h : lk foT t f = some n) : fldOff (cx B0 old) t f = some n := by
  have h1 := List.all_eq_true.1 (foT_ok B0 old) _ (lk_mem _ _ _ _ h)
  simp only at h1
  split at h1
  · rename_i m e; rw [e, Nat.eq_of_beq_eq_true h1]
  · cases h1
def lk2 : List (Nat × Nat) → Nat → Option Nat
  | [], _ => none
  | (a, n) :: r, t => match Nat.beq a t with
    | true => some n
    | false => lk2 r t
theorem lk2_mem : ∀ (l : List (Nat × Nat)) (t n : Nat), lk2 l t = some n → (t, n) ∈ l
  | [], _, _, h => by cases h
  | (a, m) :: r, t, n, h => by
    unfold lk2 at h
    split at h
    · rename_i e
      have e := Nat.eq_of_beq_eq_true e
      subst e
      cases h
      exact List.Mem.head _
    · exact List.Mem.tail _ (lk2_mem r _ _ h)
def szT : List (Nat × Nat) := [(0, 1), (1, 1), (2, 1), (3, 1), (4, 1), (5, 1), (6, 1), (7, 4), (8, 4), (9, 1), (10, 1), (11, 1), (12, 1), (13, 2), (14, 2), (15, 1), (16, 1), (17, 1), (18, 1), (19, 1), (20, 1), (21, 1), (22, 1), (23, 1), (24, 1), (25, 1), (26, 3), (27, 3), (28, 1), (29, 1), (30, 1), (31, 1), (32, 1), (33, 1), (34, 1), (35, 1), (36, 1), (37, 3), (38, 3), (39, 1), (40, 1), (41, 1), (42, 1), (43, 1), (44, 1), (45, 1), (46, 1), (47, 1), (48, 1), (49, 1), (50, 1), (51, 1), (52, 1), (53, 1), (54, 1), (55, 3), (56, 3), (57, 1), (58, 1), (59, 1), (60, 1), (61, 1), (62, 1), (63, 1), (64, 1), (65, 1), (66, 1), (67, 1), (68, 1), (69, 1), (70, 1), (71, 2), (72, 2), (73, 1), (74, 1), (75, 1), (76, 1), (77, 1), (78, 1), (79, 1), (80, 1), (81, 1), (82, 1), (83, 1), (84, 1), (85, 1), (86, 1), (87, 1), (88, 1), (89, 1), (90, 1), (91, 1), (92, 4), (93, 4), (94, 0), (95, 0), (96, 0), (97, 1), (98, 1), (99, 1), (100, 1), (101, 1), (102, 1), (103, 1), (104, 11), (105, 11), (106, 1)]
theorem szT_ok (B0 : Nat) (old : Nat → Option (List Value)) : szT.all (fun e => match sizeAt (cx B0 old) e.1 with | some n => Nat.beq n e.2 | none => false) = true := by kernel_rfl
theorem sz {B0 : Nat} {old : Nat → Option (List Value)} {t n : Nat} (h : lk2 szT t = some n) : sizeAt (cx B0 old) t = some n := by
  have h1 := List.all_eq_true.1 (szT_ok B0 old) _ (lk2_mem _ _ _ h)
  simp only at h1
  split at h1
  · rename_i m e; rw [e, Nat.eq_of_beq_eq_true h1]
  · cases h1
def esT : List (Nat × Nat) := [(22, 3), (23, 1), (30, 1), (50, 1), (52, 3), (73, 2), (74, 2)]
theorem esT_ok (B0 : Nat) (old : Nat → Option (List Value)) : esT.all (fun e => match elSize (cx B0 old) e.1 with | some n => Nat.beq n e.2 | none => false) = true := by kernel_rfl
theorem es {B0 : Nat} {old : Nat → Option (List Value)} {t n : Nat} (h : lk2 esT t = some n) : elSize (cx B0 old) t = some n := by
  have h1 := List.all_eq_true.1 (esT_ok B0 old) _ (lk2_mem _ _ _ h)
  simp only at h1
  split at h1
  · rename_i m e; rw [e, Nat.eq_of_beq_eq_true h1]
  · cases h1
def arT : List (Nat × Nat × Nat) := [(94, 0, 1)]
def lkA : List (Nat × Nat × Nat) → Nat → Option (Nat × Nat)
  | [], _ => none
  | (a, n) :: r, t => match Nat.beq a t with
    | true => some n
    | false => lkA r t
theorem lkA_mem : ∀ (l : List (Nat × Nat × Nat)) (t : Nat) (n : Nat × Nat), lkA l t = some n → (t, n) ∈ l
  | [], _, _, h => by cases h
  | (a, m) :: r, t, n, h => by
    unfold lkA at h
    split at h
    · rename_i e
      have e := Nat.eq_of_beq_eq_true e
      subst e
      cases h
      exact List.Mem.head _
    · exact List.Mem.tail _ (lkA_mem r _ _ h)
theorem arT_ok (B0 : Nat) (old : Nat → Option (List Value)) : arT.all (fun e => match arSize (cx B0 old) e.1 with | some n => Nat.beq n.1 e.2.1 && Nat.beq n.2 e.2.2 | none => false) = true := by kernel_rfl
theorem ar {B0 : Nat} {old : Nat → Option (List Value)} {t : Nat} {n : Nat × Nat} (h : lkA arT t = some n) : arSize (cx B0 old) t = some n := by
  have h1 := List.all_eq_true.1 (arT_ok B0 old) _ (lkA_mem _ _ _ h)
  simp only at h1
  split at h1
  · rename_i m e
    rw [e]
    clear e h
    simp only [Bool.and_eq_true] at h1
    have a1 := Nat.eq_of_beq_eq_true h1.1
    have a2 := Nat.eq_of_beq_eq_true h1.2
    clear h1
    obtain ⟨m1, m2⟩ := m
    obtain ⟨n1, n2⟩ := n
    simp only at a1 a2
    subst a1
    subst a2
    rfl
  · cases h1
theorem eqt_7 {B0 : Nat} {old : Nat → Option (List Value)} : EqT (cx B0 old) 7 [2, 3, 4, 6] := ⟨by kernel_rfl, by kernel_rfl, by kernel_rfl⟩
theorem eqt_8 {B0 : Nat} {old : Nat → Option (List Value)} : EqT (cx B0 old) 8 [2, 3, 4, 6] := ⟨by kernel_rfl, by kernel_rfl, by kernel_rfl⟩
theorem eqt_26 {B0 : Nat} {old : Nat → Option (List Value)} : EqT (cx B0 old) 26 [3, 3, 3] := ⟨by kernel_rfl, by kernel_rfl, by kernel_rfl⟩
theorem eqt_27 {B0 : Nat} {old : Nat → Option (List Value)} : EqT (cx B0 old) 27 [3, 3, 3] := ⟨by kernel_rfl, by kernel_rfl, by kernel_rfl⟩
theorem eqt_55 {B0 : Nat} {old : Nat → Option (List Value)} : EqT (cx B0 old) 55 [3, 3, 3] := ⟨by kernel_rfl, by kernel_rfl, by kernel_rfl⟩
theorem eqt_56 {B0 : Nat} {old : Nat → Option (List Value)} : EqT (cx B0 old) 56 [3, 3, 3] := ⟨by kernel_rfl, by kernel_rfl, by kernel_rfl⟩
theorem eqt_71 {B0 : Nat} {old : Nat → Option (List Value)} : EqT (cx B0 old) 71 [3, 3] := ⟨by kernel_rfl, by kernel_rfl, by kernel_rfl⟩
theorem eqt_72 {B0 : Nat} {old : Nat → Option (List Value)} : EqT (cx B0 old) 72 [3, 3] := ⟨by kernel_rfl, by kernel_rfl, by kernel_rfl⟩
def leT (t : Nat) : Option (List Nat) := match Nat.beq t 7 with | true => some [2, 3, 4, 6] | false => match Nat.beq t 8 with | true => some [2, 3, 4, 6] | false => match Nat.beq t 26 with | true => some [3, 3, 3] | false => match Nat.beq t 27 with | true => some [3, 3, 3] | false => match Nat.beq t 55 with | true => some [3, 3, 3] | false => match Nat.beq t 56 with | true => some [3, 3, 3] | false => match Nat.beq t 71 with | true => some [3, 3] | false => match Nat.beq t 72 with | true => some [3, 3] | false => none
theorem eqt {B0 : Nat} {old : Nat → Option (List Value)} {t : Nat} {r : List Nat} (h : leT t = some r) : EqT (cx B0 old) t r := by
  unfold leT at h
  split at h
  · rename_i e; have e := Nat.eq_of_beq_eq_true e; subst e; cases h; exact eqt_7
  split at h
  · rename_i e; have e := Nat.eq_of_beq_eq_true e; subst e; cases h; exact eqt_8
  split at h
  · rename_i e; have e := Nat.eq_of_beq_eq_true e; subst e; cases h; exact eqt_26
  split at h
  · rename_i e; have e := Nat.eq_of_beq_eq_true e; subst e; cases h; exact eqt_27
  split at h
  · rename_i e; have e := Nat.eq_of_beq_eq_true e; subst e; cases h; exact eqt_55
  split at h
  · rename_i e; have e := Nat.eq_of_beq_eq_true e; subst e; cases h; exact eqt_56
  split at h
  · rename_i e; have e := Nat.eq_of_beq_eq_true e; subst e; cases h; exact eqt_71
  split at h
  · rename_i e; have e := Nat.eq_of_beq_eq_true e; subst e; cases h; exact eqt_72
  cases h
def apT : List (Nat × Nat × Nat) := [(22, 3, 24), (23, 1, 1), (30, 1, 8), (50, 1, 24), (52, 3, 24), (73, 2, 16), (74, 2, 16)]
theorem apT_ok (B0 : Nat) (old : Nat → Option (List Value)) : apT.all (fun e => match appT (cx B0 old) e.1 e.1 with | some n => Nat.beq n.1 e.2.1 && Nat.beq n.2 e.2.2 | none => false) = true := by kernel_rfl
theorem ap {B0 : Nat} {old : Nat → Option (List Value)} {t : Nat} {n : Nat × Nat} (h : lkA apT t = some n) : appT (cx B0 old) t t = some n := by
  have h1 := List.all_eq_true.1 (apT_ok B0 old) _ (lkA_mem _ _ _ h)
  simp only at h1
  split at h1
  · rename_i m e
    rw [e]
    clear e h
    simp only [Bool.and_eq_true] at h1
    have a1 := Nat.eq_of_beq_eq_true h1.1
    have a2 := Nat.eq_of_beq_eq_true h1.2
    clear h1
    obtain ⟨m1, m2⟩ := m
    obtain ⟨n1, n2⟩ := n
    simp only at a1 a2
    subst a1
    subst a2
    rfl
  · cases h1
theorem zr_3 {B0 : Nat} {old : Nat → Option (List Value)} : zeroL (cx B0 old) 3 = some ([.int .i64 0], 1) := by kernel_rfl
theorem zr_38 {B0 : Nat} {old : Nat → Option (List Value)} : zeroL (cx B0 old) 38 = some ([.int .i64 0, .slice none 0 0, .slice none 0 0], 3) := by kernel_rfl
theorem zr_27 {B0 : Nat} {old : Nat → Option (List Value)} : zeroL (cx B0 old) 27 = some ([.int .i64 0, .int .i64 0, .int .i64 0], 3) := by kernel_rfl
theorem zr_4 {B0 : Nat} {old : Nat → Option (List Value)} : zeroL (cx B0 old) 4 = some ([.bool false], 1) := by kernel_rfl
theorem zr_56 {B0 : Nat} {old : Nat → Option (List Value)} : zeroL (cx B0 old) 56 = some ([.int .i64 0, .int .i64 0, .int .i64 0], 3) := by kernel_rfl
theorem zr_50 {B0 : Nat} {old : Nat → Option (List Value)} : zeroL (cx B0 old) 50 = some ([.slice none 0 0], 1) := by kernel_rfl
theorem zr_30 {B0 : Nat} {old : Nat → Option (List Value)} : zeroL (cx B0 old) 30 = some ([.slice none 0 0], 1) := by kernel_rfl
theorem zr_60 {B0 : Nat} {old : Nat → Option (List Value)} : zeroL (cx B0 old) 60 = some ([.map none], 1) := by kernel_rfl
theorem zr_61 {B0 : Nat} {old : Nat → Option (List Value)} : zeroL (cx B0 old) 61 = some ([.nilFunc], 1) := by kernel_rfl
theorem zr_72 {B0 : Nat} {old : Nat → Option (List Value)} : zeroL (cx B0 old) 72 = some ([.int .i64 0, .int .i64 0], 2) := by kernel_rfl
def zT (t : Nat) : Option (List Value × Nat) := match Nat.beq t 3 with | true => some ([.int .i64 0], 1) | false => match Nat.beq t 38 with | true => some ([.int .i64 0, .slice none 0 0, .slice none 0 0], 3) | false => match Nat.beq t 27 with | true => some ([.int .i64 0, .int .i64 0, .int .i64 0], 3) | false => match Nat.beq t 4 with | true => some ([.bool false], 1) | false => match Nat.beq t 56 with | true => some ([.int .i64 0, .int .i64 0, .int .i64 0], 3) | false => match Nat.beq t 50 with | true => some ([.slice none 0 0], 1) | false => match Nat.beq t 30 with | true => some ([.slice none 0 0], 1) | false => match Nat.beq t 60 with | true => some ([.map none], 1) | false => match Nat.beq t 61 with | true => some ([.nilFunc], 1) | false => match Nat.beq t 72 with | true => some ([.int .i64 0, .int .i64 0], 2) | false => none
theorem zr {B0 : Nat} {old : Nat → Option (List Value)} {t : Nat} {r : List Value × Nat} (h : zT t = some r) : zeroL (cx B0 old) t = some r := by
  unfold zT at h
  split at h
  · rename_i e; have e := Nat.eq_of_beq_eq_true e; subst e; cases h; exact zr_3
  split at h
  · rename_i e; have e := Nat.eq_of_beq_eq_true e; subst e; cases h; exact zr_38
  split at h
  · rename_i e; have e := Nat.eq_of_beq_eq_true e; subst e; cases h; exact zr_27
  split at h
  · rename_i e; have e := Nat.eq_of_beq_eq_true e; subst e; cases h; exact zr_4
  split at h
  · rename_i e; have e := Nat.eq_of_beq_eq_true e; subst e; cases h; exact zr_56
  split at h
  · rename_i e; have e := Nat.eq_of_beq_eq_true e; subst e; cases h; exact zr_50
  split at h
  · rename_i e; have e := Nat.eq_of_beq_eq_true e; subst e; cases h; exact zr_30
  split at h
  · rename_i e; have e := Nat.eq_of_beq_eq_true e; subst e; cases h; exact zr_60
  split at h
  · rename_i e; have e := Nat.eq_of_beq_eq_true e; subst e; cases h; exact zr_61
  split at h
  · rename_i e; have e := Nat.eq_of_beq_eq_true e; subst e; cases h; exact zr_72
  cases h
end Go.Proofs.Ytdaigoiekkofoaa.Abs
