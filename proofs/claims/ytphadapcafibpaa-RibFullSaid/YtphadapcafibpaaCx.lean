/- The context of this seat's symbolic runs: the program, the contract of the chapter's closed examples, the table of fields. -/
import Derived.Test.YtphadapcafibpaaRows
import Derived.KernelRfl
import Derived.Test.YtphadapcafibpaaSep4
namespace Go.Proofs.Ytphadapcafibpaa.Abs
open Go
/-- The closed examples answer true. -/
def extS (f : FuncId) (args : List Value) : Option Value := match Nat.beq f 5, args with
  | true, [] => some (.bool true)
  | _, _ => none
noncomputable def cx (B0 : Nat) (old : Nat → Option (List Value)) : Ctx := { P := Try.prog, B0, old, ext := extS }
def lk : List (Nat × Nat × Nat) → Nat → Nat → Option Nat
  | [], _, _ => none
  | (a, b, n) :: r, t, f => match Nat.beq a t with
    | true => (match Nat.beq b f with
      | true => some n
      | false => lk r t f)
    | false => lk r t f
def foT : List (Nat × Nat × Nat) := [(7, 0, 0), (7, 1, 1), (7, 2, 2), (7, 3, 3), (8, 0, 0), (8, 1, 1), (8, 2, 2), (8, 3, 3), (13, 0, 0), (13, 1, 1), (14, 0, 0), (14, 1, 1), (18, 0, 0), (19, 0, 0), (36, 0, 0), (36, 1, 1), (37, 0, 0), (37, 1, 1), (38, 0, 0), (38, 1, 1), (38, 2, 2), (38, 3, 12), (38, 4, 13), (38, 5, 14), (38, 6, 15), (38, 7, 16), (38, 8, 18), (38, 9, 19), (38, 10, 20), (39, 0, 0), (39, 1, 1), (39, 2, 2), (39, 3, 12), (39, 4, 13), (39, 5, 14), (39, 6, 15), (39, 7, 16), (39, 8, 18), (39, 9, 19), (39, 10, 20), (43, 0, 0), (43, 1, 1), (43, 2, 2), (43, 3, 3), (44, 0, 0), (44, 1, 1), (44, 2, 2), (44, 3, 3), (45, 0, 0), (45, 1, 1), (45, 2, 2), (45, 3, 3), (45, 4, 4), (45, 5, 5), (45, 6, 6), (45, 7, 7), (45, 8, 8), (45, 9, 9), (45, 10, 10), (45, 11, 11), (46, 0, 0), (46, 1, 1), (46, 2, 2), (46, 3, 3), (46, 4, 4), (46, 5, 5), (46, 6, 6), (46, 7, 7), (46, 8, 8), (46, 9, 9), (46, 10, 10), (46, 11, 11), (47, 0, 0), (47, 1, 21), (47, 2, 36), (47, 3, 37), (48, 0, 0), (48, 1, 21), (48, 2, 36), (48, 3, 37), (64, 0, 0), (64, 1, 1), (65, 0, 0), (65, 1, 1), (69, 0, 0), (69, 1, 21), (70, 0, 0), (70, 1, 21), (155, 0, 0), (155, 1, 1), (155, 2, 2), (155, 3, 3), (156, 0, 0), (156, 1, 1), (156, 2, 2), (156, 3, 3), (166, 0, 0), (166, 1, 1), (166, 2, 2), (166, 3, 3), (166, 4, 4), (166, 5, 5), (166, 6, 6), (166, 7, 7), (166, 8, 8), (166, 9, 9), (166, 10, 10), (167, 0, 0), (167, 1, 1), (167, 2, 2), (167, 3, 3), (167, 4, 4), (167, 5, 5), (167, 6, 6), (167, 7, 7), (167, 8, 8), (167, 9, 9), (167, 10, 10)]
theorem lk_mem : ∀ (l : List (Nat × Nat × Nat)) (t f n : Nat), lk l t f = some n → (t, f, n) ∈ l
  | [], _, _, _, h => by cases h
  | (a, b, m) :: r, t, f, n, h => by
    unfold lk at h
    split at h
    · rename_i e
      have e := Nat.eq_of_beq_eq_true e
      subst e
      split at h
      · rename_i e2
        have e2 := Nat.eq_of_beq_eq_true e2
        subst e2
        cases h
        exact List.Mem.head _
      · exact List.Mem.tail _ (lk_mem r _ _ _ h)
    · exact List.Mem.tail _ (lk_mem r _ _ _ h)
theorem foT_ok (B0 : Nat) (old : Nat → Option (List Value)) : foT.all (fun e => match fldOff (cx B0 old) e.1 e.2.1 with | some n => Nat.beq n e.2.2 | none => false) = true := by kernel_rfl
theorem ft {B0 : Nat} {old : Nat → Option (List Value)} {t f n : Nat} (h : lk foT t f = some n) : fldOff (cx B0 old) t f = some n := by
  have h1 := List.all_eq_true.1 (foT_ok B0 old) _ (lk_mem _ _ _ _ h)
  simp only at h1
  split at h1
  · rename_i m e; rw [e, Nat.eq_of_beq_eq_true h1]
  · cases h1
def lk2 : List (Nat × Nat) → Nat → Option Nat
  | [], _ => none
  | (a, n) :: r, t => match Nat.beq a t with
    | true => some n
    | false => lk2 r t
theorem lk2_mem : ∀ (l : List (Nat × Nat)) (t n : Nat), lk2 l t = some n → (t, n) ∈ l
  | [], _, _, h => by cases h
  | (a, m) :: r, t, n, h => by
    unfold lk2 at h
    split at h
    · rename_i e
      have e := Nat.eq_of_beq_eq_true e
      subst e
      cases h
      exact List.Mem.head _
    · exact List.Mem.tail _ (lk2_mem r _ _ h)
def szT : List (Nat × Nat) := [(0, 1), (1, 1), (2, 1), (3, 1), (4, 1), (5, 1), (6, 1), (7, 4), (8, 4), (9, 1), (10, 1), (11, 1), (12, 1), (13, 2), (14, 2), (15, 1), (16, 1), (17, 1), (18, 1), (19, 1), (20, 1), (21, 1), (22, 1), (23, 1), (24, 1), (25, 1), (26, 1), (27, 1), (28, 1), (29, 1), (30, 1), (31, 10), (32, 10), (33, 1), (34, 1), (35, 1), (36, 2), (37, 2), (38, 21), (39, 21), (40, 1), (41, 1), (42, 1), (43, 4), (44, 4), (45, 15), (46, 15), (47, 38), (48, 38), (49, 1), (50, 1), (51, 1), (52, 1), (53, 1), (54, 1), (55, 1), (56, 1), (57, 1), (58, 1), (59, 1), (60, 1), (61, 1), (62, 1), (63, 1), (64, 2), (65, 2), (66, 1), (67, 1), (68, 1), (69, 22), (70, 22), (71, 1), (72, 1), (73, 1), (74, 1), (75, 1), (76, 1), (77, 1), (78, 1), (79, 1), (80, 1), (81, 1), (82, 1), (83, 1), (84, 1), (85, 1), (86, 8), (87, 8), (88, 1), (89, 1), (90, 1), (91, 1), (92, 1), (93, 1), (94, 1), (95, 1), (96, 1), (97, 1), (98, 1), (99, 1), (100, 1), (101, 1), (102, 1), (103, 1), (104, 1), (105, 1), (106, 1), (107, 1), (108, 1), (109, 1), (110, 1), (111, 1), (112, 1), (113, 1), (114, 1), (115, 1), (116, 1), (117, 1), (118, 1), (119, 1), (120, 1), (121, 1), (122, 1), (123, 1), (124, 1), (125, 1), (126, 1), (127, 1), (128, 1), (129, 1), (130, 1), (131, 1), (132, 1), (133, 1), (134, 1), (135, 1), (136, 1), (137, 1), (138, 1), (139, 1), (140, 1), (141, 1), (142, 1), (143, 1), (144, 1), (145, 1), (146, 1), (147, 1), (148, 1), (149, 1), (150, 1), (151, 1), (152, 1), (153, 1), (154, 1), (155, 4), (156, 4), (157, 0), (158, 0), (159, 0), (160, 1), (161, 1), (162, 1), (163, 1), (164, 1), (165, 1), (166, 11), (167, 11), (168, 1)]
theorem szT_ok (B0 : Nat) (old : Nat → Option (List Value)) : szT.all (fun e => match sizeAt (cx B0 old) e.1 with | some n => Nat.beq n e.2 | none => false) = true := by kernel_rfl
theorem sz {B0 : Nat} {old : Nat → Option (List Value)} {t n : Nat} (h : lk2 szT t = some n) : sizeAt (cx B0 old) t = some n := by
  have h1 := List.all_eq_true.1 (szT_ok B0 old) _ (lk2_mem _ _ _ h)
  simp only at h1
  split at h1
  · rename_i m e; rw [e, Nat.eq_of_beq_eq_true h1]
  · cases h1
def esT : List (Nat × Nat) := [(40, 1), (41, 1), (42, 8), (54, 38), (59, 21), (92, 22), (123, 1)]
theorem esT_ok (B0 : Nat) (old : Nat → Option (List Value)) : esT.all (fun e => match elSize (cx B0 old) e.1 with | some n => Nat.beq n e.2 | none => false) = true := by kernel_rfl
theorem es {B0 : Nat} {old : Nat → Option (List Value)} {t n : Nat} (h : lk2 esT t = some n) : elSize (cx B0 old) t = some n := by
  have h1 := List.all_eq_true.1 (esT_ok B0 old) _ (lk2_mem _ _ _ h)
  simp only at h1
  split at h1
  · rename_i m e; rw [e, Nat.eq_of_beq_eq_true h1]
  · cases h1
def arT : List (Nat × Nat × Nat) := [(31, 10, 1), (32, 10, 1), (86, 8, 1), (87, 8, 1), (157, 0, 1)]
def lkA : List (Nat × Nat × Nat) → Nat → Option (Nat × Nat)
  | [], _ => none
  | (a, n) :: r, t => match Nat.beq a t with
    | true => some n
    | false => lkA r t
theorem lkA_mem : ∀ (l : List (Nat × Nat × Nat)) (t : Nat) (n : Nat × Nat), lkA l t = some n → (t, n) ∈ l
  | [], _, _, h => by cases h
  | (a, m) :: r, t, n, h => by
    unfold lkA at h
    split at h
    · rename_i e
      have e := Nat.eq_of_beq_eq_true e
      subst e
      cases h
      exact List.Mem.head _
    · exact List.Mem.tail _ (lkA_mem r _ _ h)
theorem arT_ok (B0 : Nat) (old : Nat → Option (List Value)) : arT.all (fun e => match arSize (cx B0 old) e.1 with | some n => Nat.beq n.1 e.2.1 && Nat.beq n.2 e.2.2 | none => false) = true := by kernel_rfl
theorem ar {B0 : Nat} {old : Nat → Option (List Value)} {t : Nat} {n : Nat × Nat} (h : lkA arT t = some n) : arSize (cx B0 old) t = some n := by
  have h1 := List.all_eq_true.1 (arT_ok B0 old) _ (lkA_mem _ _ _ h)
  simp only at h1
  split at h1
  · rename_i m e
    rw [e]
    clear e h
    simp only [Bool.and_eq_true] at h1
    have a1 := Nat.eq_of_beq_eq_true h1.1
    have a2 := Nat.eq_of_beq_eq_true h1.2
    clear h1
    obtain ⟨m1, m2⟩ := m
    obtain ⟨n1, n2⟩ := n
    simp only at a1 a2
    subst a1
    subst a2
    rfl
  · cases h1
theorem eqt_7 {B0 : Nat} {old : Nat → Option (List Value)} : EqT (cx B0 old) 7 [2, 3, 4, 6] := ⟨by kernel_rfl, by kernel_rfl, by kernel_rfl⟩
theorem eqt_8 {B0 : Nat} {old : Nat → Option (List Value)} : EqT (cx B0 old) 8 [2, 3, 4, 6] := ⟨by kernel_rfl, by kernel_rfl, by kernel_rfl⟩
theorem eqt_31 {B0 : Nat} {old : Nat → Option (List Value)} : EqT (cx B0 old) 31 [5, 5, 5, 5, 5, 5, 5, 5, 5, 5] := ⟨by kernel_rfl, by kernel_rfl, by kernel_rfl⟩
theorem eqt_32 {B0 : Nat} {old : Nat → Option (List Value)} : EqT (cx B0 old) 32 [5, 5, 5, 5, 5, 5, 5, 5, 5, 5] := ⟨by kernel_rfl, by kernel_rfl, by kernel_rfl⟩
theorem eqt_36 {B0 : Nat} {old : Nat → Option (List Value)} : EqT (cx B0 old) 36 [35, 3] := ⟨by kernel_rfl, by kernel_rfl, by kernel_rfl⟩
theorem eqt_37 {B0 : Nat} {old : Nat → Option (List Value)} : EqT (cx B0 old) 37 [35, 3] := ⟨by kernel_rfl, by kernel_rfl, by kernel_rfl⟩
theorem eqt_38 {B0 : Nat} {old : Nat → Option (List Value)} : EqT (cx B0 old) 38 [3, 30, 5, 5, 5, 5, 5, 5, 5, 5, 5, 5, 33, 34, 35, 4, 35, 3, 35, 33, 33] := ⟨by kernel_rfl, by kernel_rfl, by kernel_rfl⟩
theorem eqt_39 {B0 : Nat} {old : Nat → Option (List Value)} : EqT (cx B0 old) 39 [3, 30, 5, 5, 5, 5, 5, 5, 5, 5, 5, 5, 33, 34, 35, 4, 35, 3, 35, 33, 33] := ⟨by kernel_rfl, by kernel_rfl, by kernel_rfl⟩
theorem eqt_43 {B0 : Nat} {old : Nat → Option (List Value)} : EqT (cx B0 old) 43 [3, 33, 35, 35] := ⟨by kernel_rfl, by kernel_rfl, by kernel_rfl⟩
theorem eqt_44 {B0 : Nat} {old : Nat → Option (List Value)} : EqT (cx B0 old) 44 [3, 33, 35, 35] := ⟨by kernel_rfl, by kernel_rfl, by kernel_rfl⟩
theorem eqt_69 {B0 : Nat} {old : Nat → Option (List Value)} : EqT (cx B0 old) 69 [3, 30, 5, 5, 5, 5, 5, 5, 5, 5, 5, 5, 33, 34, 35, 4, 35, 3, 35, 33, 33, 35] := ⟨by kernel_rfl, by kernel_rfl, by kernel_rfl⟩
theorem eqt_70 {B0 : Nat} {old : Nat → Option (List Value)} : EqT (cx B0 old) 70 [3, 30, 5, 5, 5, 5, 5, 5, 5, 5, 5, 5, 33, 34, 35, 4, 35, 3, 35, 33, 33, 35] := ⟨by kernel_rfl, by kernel_rfl, by kernel_rfl⟩
theorem eqt_86 {B0 : Nat} {old : Nat → Option (List Value)} : EqT (cx B0 old) 86 [5, 5, 5, 5, 5, 5, 5, 5] := ⟨by kernel_rfl, by kernel_rfl, by kernel_rfl⟩
theorem eqt_87 {B0 : Nat} {old : Nat → Option (List Value)} : EqT (cx B0 old) 87 [5, 5, 5, 5, 5, 5, 5, 5] := ⟨by kernel_rfl, by kernel_rfl, by kernel_rfl⟩
def leT (t : Nat) : Option (List Nat) := match Nat.beq t 7 with | true => some [2, 3, 4, 6] | false => match Nat.beq t 8 with | true => some [2, 3, 4, 6] | false => match Nat.beq t 31 with | true => some [5, 5, 5, 5, 5, 5, 5, 5, 5, 5] | false => match Nat.beq t 32 with | true => some [5, 5, 5, 5, 5, 5, 5, 5, 5, 5] | false => match Nat.beq t 36 with | true => some [35, 3] | false => match Nat.beq t 37 with | true => some [35, 3] | false => match Nat.beq t 38 with | true => some [3, 30, 5, 5, 5, 5, 5, 5, 5, 5, 5, 5, 33, 34, 35, 4, 35, 3, 35, 33, 33] | false => match Nat.beq t 39 with | true => some [3, 30, 5, 5, 5, 5, 5, 5, 5, 5, 5, 5, 33, 34, 35, 4, 35, 3, 35, 33, 33] | false => match Nat.beq t 43 with | true => some [3, 33, 35, 35] | false => match Nat.beq t 44 with | true => some [3, 33, 35, 35] | false => match Nat.beq t 69 with | true => some [3, 30, 5, 5, 5, 5, 5, 5, 5, 5, 5, 5, 33, 34, 35, 4, 35, 3, 35, 33, 33, 35] | false => match Nat.beq t 70 with | true => some [3, 30, 5, 5, 5, 5, 5, 5, 5, 5, 5, 5, 33, 34, 35, 4, 35, 3, 35, 33, 33, 35] | false => match Nat.beq t 86 with | true => some [5, 5, 5, 5, 5, 5, 5, 5] | false => match Nat.beq t 87 with | true => some [5, 5, 5, 5, 5, 5, 5, 5] | false => none
theorem eqt {B0 : Nat} {old : Nat → Option (List Value)} {t : Nat} {r : List Nat} (h : leT t = some r) : EqT (cx B0 old) t r := by
  unfold leT at h
  split at h
  · rename_i e; have e := Nat.eq_of_beq_eq_true e; subst e; cases h; exact eqt_7
  split at h
  · rename_i e; have e := Nat.eq_of_beq_eq_true e; subst e; cases h; exact eqt_8
  split at h
  · rename_i e; have e := Nat.eq_of_beq_eq_true e; subst e; cases h; exact eqt_31
  split at h
  · rename_i e; have e := Nat.eq_of_beq_eq_true e; subst e; cases h; exact eqt_32
  split at h
  · rename_i e; have e := Nat.eq_of_beq_eq_true e; subst e; cases h; exact eqt_36
  split at h
  · rename_i e; have e := Nat.eq_of_beq_eq_true e; subst e; cases h; exact eqt_37
  split at h
  · rename_i e; have e := Nat.eq_of_beq_eq_true e; subst e; cases h; exact eqt_38
  split at h
  · rename_i e; have e := Nat.eq_of_beq_eq_true e; subst e; cases h; exact eqt_39
  split at h
  · rename_i e; have e := Nat.eq_of_beq_eq_true e; subst e; cases h; exact eqt_43
  split at h
  · rename_i e; have e := Nat.eq_of_beq_eq_true e; subst e; cases h; exact eqt_44
  split at h
  · rename_i e; have e := Nat.eq_of_beq_eq_true e; subst e; cases h; exact eqt_69
  split at h
  · rename_i e; have e := Nat.eq_of_beq_eq_true e; subst e; cases h; exact eqt_70
  split at h
  · rename_i e; have e := Nat.eq_of_beq_eq_true e; subst e; cases h; exact eqt_86
  split at h
  · rename_i e; have e := Nat.eq_of_beq_eq_true e; subst e; cases h; exact eqt_87
  cases h
def apT : List (Nat × Nat × Nat) := [(40, 1, 4), (41, 1, 4), (42, 8, 8), (54, 38, 224), (59, 21, 80), (92, 22, 88), (123, 1, 8)]
theorem apT_ok (B0 : Nat) (old : Nat → Option (List Value)) : apT.all (fun e => match appT (cx B0 old) e.1 e.1 with | some n => Nat.beq n.1 e.2.1 && Nat.beq n.2 e.2.2 | none => false) = true := by kernel_rfl
theorem ap {B0 : Nat} {old : Nat → Option (List Value)} {t : Nat} {n : Nat × Nat} (h : lkA apT t = some n) : appT (cx B0 old) t t = some n := by
  have h1 := List.all_eq_true.1 (apT_ok B0 old) _ (lkA_mem _ _ _ h)
  simp only at h1
  split at h1
  · rename_i m e
    rw [e]
    clear e h
    simp only [Bool.and_eq_true] at h1
    have a1 := Nat.eq_of_beq_eq_true h1.1
    have a2 := Nat.eq_of_beq_eq_true h1.2
    clear h1
    obtain ⟨m1, m2⟩ := m
    obtain ⟨n1, n2⟩ := n
    simp only at a1 a2
    subst a1
    subst a2
    rfl
  · cases h1
theorem zr_48 {B0 : Nat} {old : Nat → Option (List Value)} : zeroL (cx B0 old) 48 = some ([.int .i64 0, .int .u64 0, .int .u8 0, .int .u8 0, .int .u8 0, .int .u8 0, .int .u8 0, .int .u8 0, .int .u8 0, .int .u8 0, .int .u8 0, .int .u8 0, .int .u32 0, .int .u64 0, .int .u32 0, .bool false, .int .u32 0, .int .i64 0, .int .u32 0, .int .u32 0, .int .u32 0, .int .i64 0, .slice none 0 0, .int .u32 0, .bool false, .int .u32 0, .bool false, .int .u32 0, .bool false, .int .u32 0, .slice none 0 0, .slice none 0 0, .int .i64 0, .int .u32 0, .int .u32 0, .int .u32 0, .int .u32 0, .bool false], 38) := by kernel_rfl
theorem zr_39 {B0 : Nat} {old : Nat → Option (List Value)} : zeroL (cx B0 old) 39 = some ([.int .i64 0, .int .u64 0, .int .u8 0, .int .u8 0, .int .u8 0, .int .u8 0, .int .u8 0, .int .u8 0, .int .u8 0, .int .u8 0, .int .u8 0, .int .u8 0, .int .u32 0, .int .u64 0, .int .u32 0, .bool false, .int .u32 0, .int .i64 0, .int .u32 0, .int .u32 0, .int .u32 0], 21) := by kernel_rfl
theorem zr_65 {B0 : Nat} {old : Nat → Option (List Value)} : zeroL (cx B0 old) 65 = some ([.int .i64 0, .map none], 2) := by kernel_rfl
theorem zr_70 {B0 : Nat} {old : Nat → Option (List Value)} : zeroL (cx B0 old) 70 = some ([.int .i64 0, .int .u64 0, .int .u8 0, .int .u8 0, .int .u8 0, .int .u8 0, .int .u8 0, .int .u8 0, .int .u8 0, .int .u8 0, .int .u8 0, .int .u8 0, .int .u32 0, .int .u64 0, .int .u32 0, .bool false, .int .u32 0, .int .i64 0, .int .u32 0, .int .u32 0, .int .u32 0, .int .u32 0], 22) := by kernel_rfl
theorem zr_46 {B0 : Nat} {old : Nat → Option (List Value)} : zeroL (cx B0 old) 46 = some ([.int .i64 0, .slice none 0 0, .int .u32 0, .bool false, .int .u32 0, .bool false, .int .u32 0, .bool false, .int .u32 0, .slice none 0 0, .slice none 0 0, .int .i64 0, .int .u32 0, .int .u32 0, .int .u32 0], 15) := by kernel_rfl
theorem zr_37 {B0 : Nat} {old : Nat → Option (List Value)} : zeroL (cx B0 old) 37 = some ([.int .u32 0, .int .i64 0], 2) := by kernel_rfl
theorem zr_44 {B0 : Nat} {old : Nat → Option (List Value)} : zeroL (cx B0 old) 44 = some ([.int .i64 0, .int .u32 0, .int .u32 0, .int .u32 0], 4) := by kernel_rfl
theorem zr_32 {B0 : Nat} {old : Nat → Option (List Value)} : zeroL (cx B0 old) 32 = some ([.int .u8 0, .int .u8 0, .int .u8 0, .int .u8 0, .int .u8 0, .int .u8 0, .int .u8 0, .int .u8 0, .int .u8 0, .int .u8 0], 10) := by kernel_rfl
theorem zr_3 {B0 : Nat} {old : Nat → Option (List Value)} : zeroL (cx B0 old) 3 = some ([.int .i64 0], 1) := by kernel_rfl
theorem zr_33 {B0 : Nat} {old : Nat → Option (List Value)} : zeroL (cx B0 old) 33 = some ([.int .u32 0], 1) := by kernel_rfl
theorem zr_35 {B0 : Nat} {old : Nat → Option (List Value)} : zeroL (cx B0 old) 35 = some ([.int .u32 0], 1) := by kernel_rfl
theorem zr_87 {B0 : Nat} {old : Nat → Option (List Value)} : zeroL (cx B0 old) 87 = some ([.int .u8 0, .int .u8 0, .int .u8 0, .int .u8 0, .int .u8 0, .int .u8 0, .int .u8 0, .int .u8 0], 8) := by kernel_rfl
theorem zr_135 {B0 : Nat} {old : Nat → Option (List Value)} : zeroL (cx B0 old) 135 = some ([.int .u64 0], 1) := by kernel_rfl
def zT (t : Nat) : Option (List Value × Nat) := match Nat.beq t 48 with | true => some ([.int .i64 0, .int .u64 0, .int .u8 0, .int .u8 0, .int .u8 0, .int .u8 0, .int .u8 0, .int .u8 0, .int .u8 0, .int .u8 0, .int .u8 0, .int .u8 0, .int .u32 0, .int .u64 0, .int .u32 0, .bool false, .int .u32 0, .int .i64 0, .int .u32 0, .int .u32 0, .int .u32 0, .int .i64 0, .slice none 0 0, .int .u32 0, .bool false, .int .u32 0, .bool false, .int .u32 0, .bool false, .int .u32 0, .slice none 0 0, .slice none 0 0, .int .i64 0, .int .u32 0, .int .u32 0, .int .u32 0, .int .u32 0, .bool false], 38) | false => match Nat.beq t 39 with | true => some ([.int .i64 0, .int .u64 0, .int .u8 0, .int .u8 0, .int .u8 0, .int .u8 0, .int .u8 0, .int .u8 0, .int .u8 0, .int .u8 0, .int .u8 0, .int .u8 0, .int .u32 0, .int .u64 0, .int .u32 0, .bool false, .int .u32 0, .int .i64 0, .int .u32 0, .int .u32 0, .int .u32 0], 21) | false => match Nat.beq t 65 with | true => some ([.int .i64 0, .map none], 2) | false => match Nat.beq t 70 with | true => some ([.int .i64 0, .int .u64 0, .int .u8 0, .int .u8 0, .int .u8 0, .int .u8 0, .int .u8 0, .int .u8 0, .int .u8 0, .int .u8 0, .int .u8 0, .int .u8 0, .int .u32 0, .int .u64 0, .int .u32 0, .bool false, .int .u32 0, .int .i64 0, .int .u32 0, .int .u32 0, .int .u32 0, .int .u32 0], 22) | false => match Nat.beq t 46 with | true => some ([.int .i64 0, .slice none 0 0, .int .u32 0, .bool false, .int .u32 0, .bool false, .int .u32 0, .bool false, .int .u32 0, .slice none 0 0, .slice none 0 0, .int .i64 0, .int .u32 0, .int .u32 0, .int .u32 0], 15) | false => match Nat.beq t 37 with | true => some ([.int .u32 0, .int .i64 0], 2) | false => match Nat.beq t 44 with | true => some ([.int .i64 0, .int .u32 0, .int .u32 0, .int .u32 0], 4) | false => match Nat.beq t 32 with | true => some ([.int .u8 0, .int .u8 0, .int .u8 0, .int .u8 0, .int .u8 0, .int .u8 0, .int .u8 0, .int .u8 0, .int .u8 0, .int .u8 0], 10) | false => match Nat.beq t 3 with | true => some ([.int .i64 0], 1) | false => match Nat.beq t 33 with | true => some ([.int .u32 0], 1) | false => match Nat.beq t 35 with | true => some ([.int .u32 0], 1) | false => match Nat.beq t 87 with | true => some ([.int .u8 0, .int .u8 0, .int .u8 0, .int .u8 0, .int .u8 0, .int .u8 0, .int .u8 0, .int .u8 0], 8) | false => match Nat.beq t 135 with | true => some ([.int .u64 0], 1) | false => none
theorem zr {B0 : Nat} {old : Nat → Option (List Value)} {t : Nat} {r : List Value × Nat} (h : zT t = some r) : zeroL (cx B0 old) t = some r := by
  unfold zT at h
  split at h
  · rename_i e; have e := Nat.eq_of_beq_eq_true e; subst e; cases h; exact zr_48
  split at h
  · rename_i e; have e := Nat.eq_of_beq_eq_true e; subst e; cases h; exact zr_39
  split at h
  · rename_i e; have e := Nat.eq_of_beq_eq_true e; subst e; cases h; exact zr_65
  split at h
  · rename_i e; have e := Nat.eq_of_beq_eq_true e; subst e; cases h; exact zr_70
  split at h
  · rename_i e; have e := Nat.eq_of_beq_eq_true e; subst e; cases h; exact zr_46
  split at h
  · rename_i e; have e := Nat.eq_of_beq_eq_true e; subst e; cases h; exact zr_37
  split at h
  · rename_i e; have e := Nat.eq_of_beq_eq_true e; subst e; cases h; exact zr_44
  split at h
  · rename_i e; have e := Nat.eq_of_beq_eq_true e; subst e; cases h; exact zr_32
  split at h
  · rename_i e; have e := Nat.eq_of_beq_eq_true e; subst e; cases h; exact zr_3
  split at h
  · rename_i e; have e := Nat.eq_of_beq_eq_true e; subst e; cases h; exact zr_33
  split at h
  · rename_i e; have e := Nat.eq_of_beq_eq_true e; subst e; cases h; exact zr_35
  split at h
  · rename_i e; have e := Nat.eq_of_beq_eq_true e; subst e; cases h; exact zr_87
  split at h
  · rename_i e; have e := Nat.eq_of_beq_eq_true e; subst e; cases h; exact zr_135
  cases h
end Go.Proofs.Ytphadapcafibpaa.Abs
