/- The context of this seat's symbolic runs: the program, the contract of the chapter's closed examples, the table of fields. -/
import Derived.Test.YtojnbjandkbkmaaRows
import Derived.KernelRfl
import Derived.Test.YtojnbjandkbkmaaSep4
namespace Go.Proofs.Ytojnbjandkbkmaa.Abs
open Go
/-- The closed examples answer true. -/
def extS (f : FuncId) (args : List Value) : Option Value := match Nat.beq f 11, args with
  | true, [] => some (.bool true)
  | _, _ => none
noncomputable def cx (B0 : Nat) (old : Nat → Option (List Value)) : Ctx := { P := Try.prog, B0, old, ext := extS }
def lk : List (Nat × Nat × Nat) → Nat → Nat → Option Nat
  | [], _, _ => none
  | (a, b, n) :: r, t, f => match Nat.beq a t with
    | true => (match Nat.beq b f with
      | true => some n
      | false => lk r t f)
    | false => lk r t f
def foT : List (Nat × Nat × Nat) := [(7, 0, 0), (7, 1, 1), (7, 2, 2), (7, 3, 3), (8, 0, 0), (8, 1, 1), (8, 2, 2), (8, 3, 3), (13, 0, 0), (13, 1, 1), (14, 0, 0), (14, 1, 1), (18, 0, 0), (19, 0, 0), (36, 0, 0), (36, 1, 1), (36, 2, 2), (36, 3, 3), (36, 4, 4), (36, 5, 5), (37, 0, 0), (37, 1, 1), (37, 2, 2), (37, 3, 3), (37, 4, 4), (37, 5, 5), (43, 0, 0), (43, 1, 1), (44, 0, 0), (44, 1, 1), (61, 0, 0), (61, 1, 1), (61, 2, 7), (62, 0, 0), (62, 1, 1), (62, 2, 7), (68, 0, 0), (69, 0, 0), (71, 0, 0), (71, 1, 1), (71, 2, 2), (72, 0, 0), (72, 1, 1), (72, 2, 2), (77, 0, 0), (77, 1, 1), (78, 0, 0), (78, 1, 1), (90, 0, 0), (90, 1, 1), (91, 0, 0), (91, 1, 1), (145, 0, 0), (145, 1, 1), (145, 2, 2), (145, 3, 3), (146, 0, 0), (146, 1, 1), (146, 2, 2), (146, 3, 3), (157, 0, 0), (157, 1, 1), (157, 2, 2), (157, 3, 3), (157, 4, 4), (157, 5, 5), (157, 6, 6), (157, 7, 7), (157, 8, 8), (157, 9, 9), (157, 10, 10), (158, 0, 0), (158, 1, 1), (158, 2, 2), (158, 3, 3), (158, 4, 4), (158, 5, 5), (158, 6, 6), (158, 7, 7), (158, 8, 8), (158, 9, 9), (158, 10, 10)]
theorem lk_mem : ∀ (l : List (Nat × Nat × Nat)) (t f n : Nat), lk l t f = some n → (t, f, n) ∈ l
  | [], _, _, _, h => by cases h
  | (a, b, m) :: r, t, f, n, h => by
    unfold lk at h
    split at h
    · rename_i e
      have e := Nat.eq_of_beq_eq_true e
      subst e
      split at h
      · rename_i e2
        have e2 := Nat.eq_of_beq_eq_true e2
        subst e2
        cases h
        exact List.Mem.head _
      · exact List.Mem.tail _ (lk_mem r _ _ _ h)
    · exact List.Mem.tail _ (lk_mem r _ _ _ h)
theorem foT_ok (B0 : Nat) (old : Nat → Option (List Value)) : foT.all (fun e => match fldOff (cx B0 old) e.1 e.2.1 with | some n => Nat.beq n e.2.2 | none => false) = true := by kernel_rfl
theorem ft {B0 : Nat} {old : Nat → Option (List Value)} {t f n : Nat} (h : lk foT t f = some n) : fldOff (cx B0 old) t f = some n := by
  have h1 := List.all_eq_true.1 (foT_ok B0 old) _ (lk_mem _ _ _ _ h)
  simp only at h1
  split at h1
  · rename_i m e; rw [e, Nat.eq_of_beq_eq_true h1]
  · cases h1
def lk2 : List (Nat × Nat) → Nat → Option Nat
  | [], _ => none
  | (a, n) :: r, t => match Nat.beq a t with
    | true => some n
    | false => lk2 r t
theorem lk2_mem : ∀ (l : List (Nat × Nat)) (t n : Nat), lk2 l t = some n → (t, n) ∈ l
  | [], _, _, h => by cases h
  | (a, m) :: r, t, n, h => by
    unfold lk2 at h
    split at h
    · rename_i e
      have e := Nat.eq_of_beq_eq_true e
      subst e
      cases h
      exact List.Mem.head _
    · exact List.Mem.tail _ (lk2_mem r _ _ h)
def szT : List (Nat × Nat) := [(0, 1), (1, 1), (2, 1), (3, 1), (4, 1), (5, 1), (6, 1), (7, 4), (8, 4), (9, 1), (10, 1), (11, 1), (12, 1), (13, 2), (14, 2), (15, 1), (16, 1), (17, 1), (18, 1), (19, 1), (20, 1), (21, 1), (22, 1), (23, 1), (24, 1), (25, 1), (26, 1), (27, 1), (28, 1), (29, 1), (30, 1), (31, 1), (32, 1), (33, 1), (34, 1), (35, 1), (36, 6), (37, 6), (38, 1), (39, 1), (40, 1), (41, 1), (42, 1), (43, 2), (44, 2), (45, 1), (46, 1), (47, 1), (48, 1), (49, 1), (50, 1), (51, 1), (52, 1), (53, 1), (54, 1), (55, 1), (56, 1), (57, 1), (58, 1), (59, 1), (60, 1), (61, 8), (62, 8), (63, 1), (64, 1), (65, 1), (66, 1), (67, 1), (68, 1), (69, 1), (70, 1), (71, 3), (72, 3), (73, 1), (74, 1), (75, 1), (76, 1), (77, 2), (78, 2), (79, 1), (80, 1), (81, 1), (82, 1), (83, 1), (84, 1), (85, 1), (86, 1), (87, 1), (88, 1), (89, 1), (90, 2), (91, 2), (92, 1), (93, 1), (94, 1), (95, 1), (96, 1), (97, 1), (98, 1), (99, 1), (100, 1), (101, 1), (102, 1), (103, 1), (104, 1), (105, 1), (106, 1), (107, 1), (108, 1), (109, 1), (110, 1), (111, 1), (112, 1), (113, 1), (114, 1), (115, 1), (116, 1), (117, 1), (118, 1), (119, 1), (120, 1), (121, 1), (122, 1), (123, 1), (124, 1), (125, 1), (126, 1), (127, 1), (128, 1), (129, 1), (130, 1), (131, 1), (132, 1), (133, 1), (134, 1), (135, 1), (136, 1), (137, 1), (138, 1), (139, 1), (140, 1), (141, 1), (142, 1), (143, 1), (144, 1), (145, 4), (146, 4), (147, 0), (148, 0), (149, 0), (150, 1), (151, 1), (152, 1), (153, 1), (154, 1), (155, 1), (156, 1), (157, 11), (158, 11), (159, 1)]
theorem szT_ok (B0 : Nat) (old : Nat → Option (List Value)) : szT.all (fun e => match sizeAt (cx B0 old) e.1 with | some n => Nat.beq n e.2 | none => false) = true := by kernel_rfl
theorem sz {B0 : Nat} {old : Nat → Option (List Value)} {t n : Nat} (h : lk2 szT t = some n) : sizeAt (cx B0 old) t = some n := by
  have h1 := List.all_eq_true.1 (szT_ok B0 old) _ (lk2_mem _ _ _ h)
  simp only at h1
  split at h1
  · rename_i m e; rw [e, Nat.eq_of_beq_eq_true h1]
  · cases h1
def esT : List (Nat × Nat) := [(22, 6), (56, 1), (60, 8), (73, 1), (81, 2), (109, 1)]
theorem esT_ok (B0 : Nat) (old : Nat → Option (List Value)) : esT.all (fun e => match elSize (cx B0 old) e.1 with | some n => Nat.beq n e.2 | none => false) = true := by kernel_rfl
theorem es {B0 : Nat} {old : Nat → Option (List Value)} {t n : Nat} (h : lk2 esT t = some n) : elSize (cx B0 old) t = some n := by
  have h1 := List.all_eq_true.1 (esT_ok B0 old) _ (lk2_mem _ _ _ h)
  simp only at h1
  split at h1
  · rename_i m e; rw [e, Nat.eq_of_beq_eq_true h1]
  · cases h1
def arT : List (Nat × Nat × Nat) := [(147, 0, 1)]
def lkA : List (Nat × Nat × Nat) → Nat → Option (Nat × Nat)
  | [], _ => none
  | (a, n) :: r, t => match Nat.beq a t with
    | true => some n
    | false => lkA r t
theorem lkA_mem : ∀ (l : List (Nat × Nat × Nat)) (t : Nat) (n : Nat × Nat), lkA l t = some n → (t, n) ∈ l
  | [], _, _, h => by cases h
  | (a, m) :: r, t, n, h => by
    unfold lkA at h
    split at h
    · rename_i e
      have e := Nat.eq_of_beq_eq_true e
      subst e
      cases h
      exact List.Mem.head _
    · exact List.Mem.tail _ (lkA_mem r _ _ h)
theorem arT_ok (B0 : Nat) (old : Nat → Option (List Value)) : arT.all (fun e => match arSize (cx B0 old) e.1 with | some n => Nat.beq n.1 e.2.1 && Nat.beq n.2 e.2.2 | none => false) = true := by kernel_rfl
theorem ar {B0 : Nat} {old : Nat → Option (List Value)} {t : Nat} {n : Nat × Nat} (h : lkA arT t = some n) : arSize (cx B0 old) t = some n := by
  have h1 := List.all_eq_true.1 (arT_ok B0 old) _ (lkA_mem _ _ _ h)
  simp only at h1
  split at h1
  · rename_i m e
    rw [e]
    clear e h
    simp only [Bool.and_eq_true] at h1
    have a1 := Nat.eq_of_beq_eq_true h1.1
    have a2 := Nat.eq_of_beq_eq_true h1.2
    clear h1
    obtain ⟨m1, m2⟩ := m
    obtain ⟨n1, n2⟩ := n
    simp only at a1 a2
    subst a1
    subst a2
    rfl
  · cases h1
theorem eqt_7 {B0 : Nat} {old : Nat → Option (List Value)} : EqT (cx B0 old) 7 [2, 3, 4, 6] := ⟨by kernel_rfl, by kernel_rfl, by kernel_rfl⟩
theorem eqt_8 {B0 : Nat} {old : Nat → Option (List Value)} : EqT (cx B0 old) 8 [2, 3, 4, 6] := ⟨by kernel_rfl, by kernel_rfl, by kernel_rfl⟩
theorem eqt_36 {B0 : Nat} {old : Nat → Option (List Value)} : EqT (cx B0 old) 36 [3, 3, 33, 35, 4, 3] := ⟨by kernel_rfl, by kernel_rfl, by kernel_rfl⟩
theorem eqt_37 {B0 : Nat} {old : Nat → Option (List Value)} : EqT (cx B0 old) 37 [3, 3, 33, 35, 4, 3] := ⟨by kernel_rfl, by kernel_rfl, by kernel_rfl⟩
theorem eqt_61 {B0 : Nat} {old : Nat → Option (List Value)} : EqT (cx B0 old) 61 [3, 3, 3, 33, 35, 4, 3, 4] := ⟨by kernel_rfl, by kernel_rfl, by kernel_rfl⟩
theorem eqt_62 {B0 : Nat} {old : Nat → Option (List Value)} : EqT (cx B0 old) 62 [3, 3, 3, 33, 35, 4, 3, 4] := ⟨by kernel_rfl, by kernel_rfl, by kernel_rfl⟩
theorem eqt_77 {B0 : Nat} {old : Nat → Option (List Value)} : EqT (cx B0 old) 77 [3, 33] := ⟨by kernel_rfl, by kernel_rfl, by kernel_rfl⟩
theorem eqt_78 {B0 : Nat} {old : Nat → Option (List Value)} : EqT (cx B0 old) 78 [3, 33] := ⟨by kernel_rfl, by kernel_rfl, by kernel_rfl⟩
theorem eqt_90 {B0 : Nat} {old : Nat → Option (List Value)} : EqT (cx B0 old) 90 [3, 35] := ⟨by kernel_rfl, by kernel_rfl, by kernel_rfl⟩
theorem eqt_91 {B0 : Nat} {old : Nat → Option (List Value)} : EqT (cx B0 old) 91 [3, 35] := ⟨by kernel_rfl, by kernel_rfl, by kernel_rfl⟩
def leT (t : Nat) : Option (List Nat) := match Nat.beq t 7 with | true => some [2, 3, 4, 6] | false => match Nat.beq t 8 with | true => some [2, 3, 4, 6] | false => match Nat.beq t 36 with | true => some [3, 3, 33, 35, 4, 3] | false => match Nat.beq t 37 with | true => some [3, 3, 33, 35, 4, 3] | false => match Nat.beq t 61 with | true => some [3, 3, 3, 33, 35, 4, 3, 4] | false => match Nat.beq t 62 with | true => some [3, 3, 3, 33, 35, 4, 3, 4] | false => match Nat.beq t 77 with | true => some [3, 33] | false => match Nat.beq t 78 with | true => some [3, 33] | false => match Nat.beq t 90 with | true => some [3, 35] | false => match Nat.beq t 91 with | true => some [3, 35] | false => none
theorem eqt {B0 : Nat} {old : Nat → Option (List Value)} {t : Nat} {r : List Nat} (h : leT t = some r) : EqT (cx B0 old) t r := by
  unfold leT at h
  split at h
  · rename_i e; have e := Nat.eq_of_beq_eq_true e; subst e; cases h; exact eqt_7
  split at h
  · rename_i e; have e := Nat.eq_of_beq_eq_true e; subst e; cases h; exact eqt_8
  split at h
  · rename_i e; have e := Nat.eq_of_beq_eq_true e; subst e; cases h; exact eqt_36
  split at h
  · rename_i e; have e := Nat.eq_of_beq_eq_true e; subst e; cases h; exact eqt_37
  split at h
  · rename_i e; have e := Nat.eq_of_beq_eq_true e; subst e; cases h; exact eqt_61
  split at h
  · rename_i e; have e := Nat.eq_of_beq_eq_true e; subst e; cases h; exact eqt_62
  split at h
  · rename_i e; have e := Nat.eq_of_beq_eq_true e; subst e; cases h; exact eqt_77
  split at h
  · rename_i e; have e := Nat.eq_of_beq_eq_true e; subst e; cases h; exact eqt_78
  split at h
  · rename_i e; have e := Nat.eq_of_beq_eq_true e; subst e; cases h; exact eqt_90
  split at h
  · rename_i e; have e := Nat.eq_of_beq_eq_true e; subst e; cases h; exact eqt_91
  cases h
def apT : List (Nat × Nat × Nat) := [(22, 6, 40), (56, 1, 8), (60, 8, 56), (73, 1, 8), (81, 2, 16), (109, 1, 1)]
theorem apT_ok (B0 : Nat) (old : Nat → Option (List Value)) : apT.all (fun e => match appT (cx B0 old) e.1 e.1 with | some n => Nat.beq n.1 e.2.1 && Nat.beq n.2 e.2.2 | none => false) = true := by kernel_rfl
theorem ap {B0 : Nat} {old : Nat → Option (List Value)} {t : Nat} {n : Nat × Nat} (h : lkA apT t = some n) : appT (cx B0 old) t t = some n := by
  have h1 := List.all_eq_true.1 (apT_ok B0 old) _ (lkA_mem _ _ _ h)
  simp only at h1
  split at h1
  · rename_i m e
    rw [e]
    clear e h
    simp only [Bool.and_eq_true] at h1
    have a1 := Nat.eq_of_beq_eq_true h1.1
    have a2 := Nat.eq_of_beq_eq_true h1.2
    clear h1
    obtain ⟨m1, m2⟩ := m
    obtain ⟨n1, n2⟩ := n
    simp only at a1 a2
    subst a1
    subst a2
    rfl
  · cases h1
theorem zr_37 {B0 : Nat} {old : Nat → Option (List Value)} : zeroL (cx B0 old) 37 = some ([.int .i64 0, .int .i64 0, .int .u64 0, .int .u32 0, .bool false, .int .i64 0], 6) := by kernel_rfl
theorem zr_72 {B0 : Nat} {old : Nat → Option (List Value)} : zeroL (cx B0 old) 72 = some ([.map none, .int .i64 0, .map none], 3) := by kernel_rfl
theorem zr_24 {B0 : Nat} {old : Nat → Option (List Value)} : zeroL (cx B0 old) 24 = some ([.pointer none], 1) := by kernel_rfl
theorem zr_69 {B0 : Nat} {old : Nat → Option (List Value)} : zeroL (cx B0 old) 69 = some ([.map none], 1) := by kernel_rfl
theorem zr_44 {B0 : Nat} {old : Nat → Option (List Value)} : zeroL (cx B0 old) 44 = some ([.int .i64 0, .slice none 0 0], 2) := by kernel_rfl
theorem zr_78 {B0 : Nat} {old : Nat → Option (List Value)} : zeroL (cx B0 old) 78 = some ([.int .i64 0, .int .u64 0], 2) := by kernel_rfl
theorem zr_91 {B0 : Nat} {old : Nat → Option (List Value)} : zeroL (cx B0 old) 91 = some ([.int .i64 0, .int .u32 0], 2) := by kernel_rfl
theorem zr_3 {B0 : Nat} {old : Nat → Option (List Value)} : zeroL (cx B0 old) 3 = some ([.int .i64 0], 1) := by kernel_rfl
theorem zr_22 {B0 : Nat} {old : Nat → Option (List Value)} : zeroL (cx B0 old) 22 = some ([.slice none 0 0], 1) := by kernel_rfl
theorem zr_4 {B0 : Nat} {old : Nat → Option (List Value)} : zeroL (cx B0 old) 4 = some ([.bool false], 1) := by kernel_rfl
theorem zr_132 {B0 : Nat} {old : Nat → Option (List Value)} : zeroL (cx B0 old) 132 = some ([.int .u64 0], 1) := by kernel_rfl
def zT (t : Nat) : Option (List Value × Nat) := match Nat.beq t 37 with | true => some ([.int .i64 0, .int .i64 0, .int .u64 0, .int .u32 0, .bool false, .int .i64 0], 6) | false => match Nat.beq t 72 with | true => some ([.map none, .int .i64 0, .map none], 3) | false => match Nat.beq t 24 with | true => some ([.pointer none], 1) | false => match Nat.beq t 69 with | true => some ([.map none], 1) | false => match Nat.beq t 44 with | true => some ([.int .i64 0, .slice none 0 0], 2) | false => match Nat.beq t 78 with | true => some ([.int .i64 0, .int .u64 0], 2) | false => match Nat.beq t 91 with | true => some ([.int .i64 0, .int .u32 0], 2) | false => match Nat.beq t 3 with | true => some ([.int .i64 0], 1) | false => match Nat.beq t 22 with | true => some ([.slice none 0 0], 1) | false => match Nat.beq t 4 with | true => some ([.bool false], 1) | false => match Nat.beq t 132 with | true => some ([.int .u64 0], 1) | false => none
theorem zr {B0 : Nat} {old : Nat → Option (List Value)} {t : Nat} {r : List Value × Nat} (h : zT t = some r) : zeroL (cx B0 old) t = some r := by
  unfold zT at h
  split at h
  · rename_i e; have e := Nat.eq_of_beq_eq_true e; subst e; cases h; exact zr_37
  split at h
  · rename_i e; have e := Nat.eq_of_beq_eq_true e; subst e; cases h; exact zr_72
  split at h
  · rename_i e; have e := Nat.eq_of_beq_eq_true e; subst e; cases h; exact zr_24
  split at h
  · rename_i e; have e := Nat.eq_of_beq_eq_true e; subst e; cases h; exact zr_69
  split at h
  · rename_i e; have e := Nat.eq_of_beq_eq_true e; subst e; cases h; exact zr_44
  split at h
  · rename_i e; have e := Nat.eq_of_beq_eq_true e; subst e; cases h; exact zr_78
  split at h
  · rename_i e; have e := Nat.eq_of_beq_eq_true e; subst e; cases h; exact zr_91
  split at h
  · rename_i e; have e := Nat.eq_of_beq_eq_true e; subst e; cases h; exact zr_3
  split at h
  · rename_i e; have e := Nat.eq_of_beq_eq_true e; subst e; cases h; exact zr_22
  split at h
  · rename_i e; have e := Nat.eq_of_beq_eq_true e; subst e; cases h; exact zr_4
  split at h
  · rename_i e; have e := Nat.eq_of_beq_eq_true e; subst e; cases h; exact zr_132
  cases h
end Go.Proofs.Ytojnbjandkbkmaa.Abs
