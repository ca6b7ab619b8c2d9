/- The context of this seat's symbolic runs: the program, the contract of the chapter's closed examples, the table of fields. -/
import Derived.Test.YtphadapcafibpaaGreatRows
import Derived.KernelRfl
import Derived.Test.YtphadapcafibpaaGreatSep4
namespace Go.Proofs.YtphadapcafibpaaGreat.Abs
open Go
/-- The closed examples answer true. -/
def extS (f : FuncId) (args : List Value) : Option Value := match Nat.beq f 7, args with
  | true, [] => some (.bool true)
  | _, _ => none
noncomputable def cx (B0 : Nat) (old : Nat → Option (List Value)) : Ctx := { P := Tryz.prog, B0, old, ext := extS }
def lk : List (Nat × Nat × Nat) → Nat → Nat → Option Nat
  | [], _, _ => none
  | (a, b, n) :: r, t, f => match Nat.beq a t with
    | true => (match Nat.beq b f with
      | true => some n
      | false => lk r t f)
    | false => lk r t f
def foT : List (Nat × Nat × Nat) := [(7, 0, 0), (7, 1, 1), (7, 2, 2), (7, 3, 3), (8, 0, 0), (8, 1, 1), (8, 2, 2), (8, 3, 3), (13, 0, 0), (13, 1, 1), (14, 0, 0), (14, 1, 1), (18, 0, 0), (19, 0, 0), (40, 0, 0), (40, 1, 1), (41, 0, 0), (41, 1, 1), (42, 0, 0), (42, 1, 1), (42, 2, 2), (42, 3, 12), (42, 4, 13), (42, 5, 14), (42, 6, 15), (42, 7, 16), (42, 8, 18), (42, 9, 19), (42, 10, 20), (43, 0, 0), (43, 1, 1), (43, 2, 2), (43, 3, 12), (43, 4, 13), (43, 5, 14), (43, 6, 15), (43, 7, 16), (43, 8, 18), (43, 9, 19), (43, 10, 20), (47, 0, 0), (47, 1, 1), (47, 2, 2), (47, 3, 3), (48, 0, 0), (48, 1, 1), (48, 2, 2), (48, 3, 3), (49, 0, 0), (49, 1, 1), (49, 2, 2), (49, 3, 3), (49, 4, 4), (49, 5, 5), (49, 6, 6), (49, 7, 7), (49, 8, 8), (49, 9, 9), (49, 10, 10), (49, 11, 11), (50, 0, 0), (50, 1, 1), (50, 2, 2), (50, 3, 3), (50, 4, 4), (50, 5, 5), (50, 6, 6), (50, 7, 7), (50, 8, 8), (50, 9, 9), (50, 10, 10), (50, 11, 11), (51, 0, 0), (51, 1, 21), (51, 2, 36), (51, 3, 37), (52, 0, 0), (52, 1, 21), (52, 2, 36), (52, 3, 37), (53, 0, 0), (53, 1, 1), (54, 0, 0), (54, 1, 1), (85, 0, 0), (85, 1, 1), (86, 0, 0), (86, 1, 1), (87, 0, 0), (87, 1, 1), (88, 0, 0), (88, 1, 1), (90, 0, 0), (90, 1, 21), (91, 0, 0), (91, 1, 21), (184, 0, 0), (184, 1, 1), (184, 2, 2), (184, 3, 3), (185, 0, 0), (185, 1, 1), (185, 2, 2), (185, 3, 3), (195, 0, 0), (195, 1, 1), (195, 2, 2), (195, 3, 3), (195, 4, 4), (195, 5, 5), (195, 6, 6), (195, 7, 7), (195, 8, 8), (195, 9, 9), (195, 10, 10), (196, 0, 0), (196, 1, 1), (196, 2, 2), (196, 3, 3), (196, 4, 4), (196, 5, 5), (196, 6, 6), (196, 7, 7), (196, 8, 8), (196, 9, 9), (196, 10, 10)]
theorem lk_mem : ∀ (l : List (Nat × Nat × Nat)) (t f n : Nat), lk l t f = some n → (t, f, n) ∈ l
  | [], _, _, _, h => by cases h
  | (a, b, m) :: r, t, f, n, h => by
    unfold lk at h
    split at h
    · rename_i e
      have e := Nat.eq_of_beq_eq_true e
      subst e
      split at h
      · rename_i e2
        have e2 := Nat.eq_of_beq_eq_true e2
        subst e2
        cases h
        exact List.Mem.head _
      · exact List.Mem.tail _ (lk_mem r _ _ _ h)
    · exact List.Mem.tail _ (lk_mem r _ _ _ h)
theorem foT_ok (B0 : Nat) (old : Nat → Option (List Value)) : foT.all (fun e => match fldOff (cx B0 old) e.1 e.2.1 with | some n => Nat.beq n e.2.2 | none => false) = true := by kernel_rfl
theorem ft {B0 : Nat} {old : Nat → Option (List Value)} {t f n : Nat} (h : lk foT t f = some n) : fldOff (cx B0 old) t f = some n := by
  have h1 := List.all_eq_true.1 (foT_ok B0 old) _ (lk_mem _ _ _ _ h)
  simp only at h1
  split at h1
  · rename_i m e; rw [e, Nat.eq_of_beq_eq_true h1]
  · cases h1
def lk2 : List (Nat × Nat) → Nat → Option Nat
  | [], _ => none
  | (a, n) :: r, t => match Nat.beq a t with
    | true => some n
    | false => lk2 r t
theorem lk2_mem : ∀ (l : List (Nat × Nat)) (t n : Nat), lk2 l t = some n → (t, n) ∈ l
  | [], _, _, h => by cases h
  | (a, m) :: r, t, n, h => by
    unfold lk2 at h
    split at h
    · rename_i e
      have e := Nat.eq_of_beq_eq_true e
      subst e
      cases h
      exact List.Mem.head _
    · exact List.Mem.tail _ (lk2_mem r _ _ h)
def szT : List (Nat × Nat) := [(0, 1), (1, 1), (2, 1), (3, 1), (4, 1), (5, 1), (6, 1), (7, 4), (8, 4), (9, 1), (10, 1), (11, 1), (12, 1), (13, 2), (14, 2), (15, 1), (16, 1), (17, 1), (18, 1), (19, 1), (20, 1), (21, 1), (22, 1), (23, 1), (24, 1), (25, 1), (26, 1), (27, 1), (28, 1), (29, 1), (30, 1), (31, 1), (32, 1), (33, 1), (34, 1), (35, 10), (36, 10), (37, 1), (38, 1), (39, 1), (40, 2), (41, 2), (42, 21), (43, 21), (44, 1), (45, 1), (46, 1), (47, 4), (48, 4), (49, 15), (50, 15), (51, 38), (52, 38), (53, 39), (54, 39), (55, 1), (56, 1), (57, 1), (58, 1), (59, 1), (60, 1), (61, 1), (62, 1), (63, 1), (64, 1), (65, 1), (66, 1), (67, 1), (68, 1), (69, 1), (70, 1), (71, 1), (72, 1), (73, 1), (74, 1), (75, 1), (76, 1), (77, 1), (78, 1), (79, 1), (80, 1), (81, 1), (82, 1), (83, 1), (84, 1), (85, 2), (86, 2), (87, 2), (88, 2), (89, 1), (90, 22), (91, 22), (92, 1), (93, 1), (94, 1), (95, 1), (96, 1), (97, 1), (98, 1), (99, 1), (100, 1), (101, 1), (102, 1), (103, 1), (104, 1), (105, 1), (106, 1), (107, 1), (108, 1), (109, 1), (110, 1), (111, 1), (112, 1), (113, 8), (114, 8), (115, 1), (116, 1), (117, 1), (118, 1), (119, 1), (120, 1), (121, 1), (122, 1), (123, 1), (124, 1), (125, 1), (126, 1), (127, 1), (128, 1), (129, 1), (130, 1), (131, 1), (132, 1), (133, 1), (134, 1), (135, 1), (136, 1), (137, 1), (138, 1), (139, 1), (140, 1), (141, 1), (142, 1), (143, 1), (144, 1), (145, 1), (146, 1), (147, 1), (148, 1), (149, 1), (150, 1), (151, 1), (152, 1), (153, 1), (154, 1), (155, 1), (156, 1), (157, 1), (158, 1), (159, 1), (160, 1), (161, 1), (162, 1), (163, 1), (164, 1), (165, 1), (166, 1), (167, 1), (168, 1), (169, 1), (170, 1), (171, 1), (172, 1), (173, 1), (174, 1), (175, 1), (176, 1), (177, 1), (178, 1), (179, 1), (180, 1), (181, 1), (182, 1), (183, 1), (184, 4), (185, 4), (186, 0), (187, 0), (188, 0), (189, 1), (190, 1), (191, 1), (192, 1), (193, 1), (194, 1), (195, 11), (196, 11), (197, 1)]
theorem szT_ok (B0 : Nat) (old : Nat → Option (List Value)) : szT.all (fun e => match sizeAt (cx B0 old) e.1 with | some n => Nat.beq n e.2 | none => false) = true := by kernel_rfl
theorem sz {B0 : Nat} {old : Nat → Option (List Value)} {t n : Nat} (h : lk2 szT t = some n) : sizeAt (cx B0 old) t = some n := by
  have h1 := List.all_eq_true.1 (szT_ok B0 old) _ (lk2_mem _ _ _ h)
  simp only at h1
  split at h1
  · rename_i m e; rw [e, Nat.eq_of_beq_eq_true h1]
  · cases h1
def esT : List (Nat × Nat) := [(22, 39), (44, 1), (45, 1), (46, 8), (58, 38), (74, 21), (115, 22), (152, 1)]
theorem esT_ok (B0 : Nat) (old : Nat → Option (List Value)) : esT.all (fun e => match elSize (cx B0 old) e.1 with | some n => Nat.beq n e.2 | none => false) = true := by kernel_rfl
theorem es {B0 : Nat} {old : Nat → Option (List Value)} {t n : Nat} (h : lk2 esT t = some n) : elSize (cx B0 old) t = some n := by
  have h1 := List.all_eq_true.1 (esT_ok B0 old) _ (lk2_mem _ _ _ h)
  simp only at h1
  split at h1
  · rename_i m e; rw [e, Nat.eq_of_beq_eq_true h1]
  · cases h1
def arT : List (Nat × Nat × Nat) := [(35, 10, 1), (36, 10, 1), (113, 8, 1), (114, 8, 1), (186, 0, 1)]
def lkA : List (Nat × Nat × Nat) → Nat → Option (Nat × Nat)
  | [], _ => none
  | (a, n) :: r, t => match Nat.beq a t with
    | true => some n
    | false => lkA r t
theorem lkA_mem : ∀ (l : List (Nat × Nat × Nat)) (t : Nat) (n : Nat × Nat), lkA l t = some n → (t, n) ∈ l
  | [], _, _, h => by cases h
  | (a, m) :: r, t, n, h => by
    unfold lkA at h
    split at h
    · rename_i e
      have e := Nat.eq_of_beq_eq_true e
      subst e
      cases h
      exact List.Mem.head _
    · exact List.Mem.tail _ (lkA_mem r _ _ h)
theorem arT_ok (B0 : Nat) (old : Nat → Option (List Value)) : arT.all (fun e => match arSize (cx B0 old) e.1 with | some n => Nat.beq n.1 e.2.1 && Nat.beq n.2 e.2.2 | none => false) = true := by kernel_rfl
theorem ar {B0 : Nat} {old : Nat → Option (List Value)} {t : Nat} {n : Nat × Nat} (h : lkA arT t = some n) : arSize (cx B0 old) t = some n := by
  have h1 := List.all_eq_true.1 (arT_ok B0 old) _ (lkA_mem _ _ _ h)
  simp only at h1
  split at h1
  · rename_i m e
    rw [e]
    clear e h
    simp only [Bool.and_eq_true] at h1
    have a1 := Nat.eq_of_beq_eq_true h1.1
    have a2 := Nat.eq_of_beq_eq_true h1.2
    clear h1
    obtain ⟨m1, m2⟩ := m
    obtain ⟨n1, n2⟩ := n
    simp only at a1 a2
    subst a1
    subst a2
    rfl
  · cases h1
theorem eqt_7 {B0 : Nat} {old : Nat → Option (List Value)} : EqT (cx B0 old) 7 [2, 3, 4, 6] := ⟨by kernel_rfl, by kernel_rfl, by kernel_rfl⟩
theorem eqt_8 {B0 : Nat} {old : Nat → Option (List Value)} : EqT (cx B0 old) 8 [2, 3, 4, 6] := ⟨by kernel_rfl, by kernel_rfl, by kernel_rfl⟩
theorem eqt_35 {B0 : Nat} {old : Nat → Option (List Value)} : EqT (cx B0 old) 35 [5, 5, 5, 5, 5, 5, 5, 5, 5, 5] := ⟨by kernel_rfl, by kernel_rfl, by kernel_rfl⟩
theorem eqt_36 {B0 : Nat} {old : Nat → Option (List Value)} : EqT (cx B0 old) 36 [5, 5, 5, 5, 5, 5, 5, 5, 5, 5] := ⟨by kernel_rfl, by kernel_rfl, by kernel_rfl⟩
theorem eqt_40 {B0 : Nat} {old : Nat → Option (List Value)} : EqT (cx B0 old) 40 [39, 3] := ⟨by kernel_rfl, by kernel_rfl, by kernel_rfl⟩
theorem eqt_41 {B0 : Nat} {old : Nat → Option (List Value)} : EqT (cx B0 old) 41 [39, 3] := ⟨by kernel_rfl, by kernel_rfl, by kernel_rfl⟩
theorem eqt_42 {B0 : Nat} {old : Nat → Option (List Value)} : EqT (cx B0 old) 42 [3, 34, 5, 5, 5, 5, 5, 5, 5, 5, 5, 5, 37, 38, 39, 4, 39, 3, 39, 37, 37] := ⟨by kernel_rfl, by kernel_rfl, by kernel_rfl⟩
theorem eqt_43 {B0 : Nat} {old : Nat → Option (List Value)} : EqT (cx B0 old) 43 [3, 34, 5, 5, 5, 5, 5, 5, 5, 5, 5, 5, 37, 38, 39, 4, 39, 3, 39, 37, 37] := ⟨by kernel_rfl, by kernel_rfl, by kernel_rfl⟩
theorem eqt_47 {B0 : Nat} {old : Nat → Option (List Value)} : EqT (cx B0 old) 47 [3, 37, 39, 39] := ⟨by kernel_rfl, by kernel_rfl, by kernel_rfl⟩
theorem eqt_48 {B0 : Nat} {old : Nat → Option (List Value)} : EqT (cx B0 old) 48 [3, 37, 39, 39] := ⟨by kernel_rfl, by kernel_rfl, by kernel_rfl⟩
theorem eqt_90 {B0 : Nat} {old : Nat → Option (List Value)} : EqT (cx B0 old) 90 [3, 34, 5, 5, 5, 5, 5, 5, 5, 5, 5, 5, 37, 38, 39, 4, 39, 3, 39, 37, 37, 39] := ⟨by kernel_rfl, by kernel_rfl, by kernel_rfl⟩
theorem eqt_91 {B0 : Nat} {old : Nat → Option (List Value)} : EqT (cx B0 old) 91 [3, 34, 5, 5, 5, 5, 5, 5, 5, 5, 5, 5, 37, 38, 39, 4, 39, 3, 39, 37, 37, 39] := ⟨by kernel_rfl, by kernel_rfl, by kernel_rfl⟩
theorem eqt_113 {B0 : Nat} {old : Nat → Option (List Value)} : EqT (cx B0 old) 113 [5, 5, 5, 5, 5, 5, 5, 5] := ⟨by kernel_rfl, by kernel_rfl, by kernel_rfl⟩
theorem eqt_114 {B0 : Nat} {old : Nat → Option (List Value)} : EqT (cx B0 old) 114 [5, 5, 5, 5, 5, 5, 5, 5] := ⟨by kernel_rfl, by kernel_rfl, by kernel_rfl⟩
def leT (t : Nat) : Option (List Nat) := match Nat.beq t 7 with | true => some [2, 3, 4, 6] | false => match Nat.beq t 8 with | true => some [2, 3, 4, 6] | false => match Nat.beq t 35 with | true => some [5, 5, 5, 5, 5, 5, 5, 5, 5, 5] | false => match Nat.beq t 36 with | true => some [5, 5, 5, 5, 5, 5, 5, 5, 5, 5] | false => match Nat.beq t 40 with | true => some [39, 3] | false => match Nat.beq t 41 with | true => some [39, 3] | false => match Nat.beq t 42 with | true => some [3, 34, 5, 5, 5, 5, 5, 5, 5, 5, 5, 5, 37, 38, 39, 4, 39, 3, 39, 37, 37] | false => match Nat.beq t 43 with | true => some [3, 34, 5, 5, 5, 5, 5, 5, 5, 5, 5, 5, 37, 38, 39, 4, 39, 3, 39, 37, 37] | false => match Nat.beq t 47 with | true => some [3, 37, 39, 39] | false => match Nat.beq t 48 with | true => some [3, 37, 39, 39] | false => match Nat.beq t 90 with | true => some [3, 34, 5, 5, 5, 5, 5, 5, 5, 5, 5, 5, 37, 38, 39, 4, 39, 3, 39, 37, 37, 39] | false => match Nat.beq t 91 with | true => some [3, 34, 5, 5, 5, 5, 5, 5, 5, 5, 5, 5, 37, 38, 39, 4, 39, 3, 39, 37, 37, 39] | false => match Nat.beq t 113 with | true => some [5, 5, 5, 5, 5, 5, 5, 5] | false => match Nat.beq t 114 with | true => some [5, 5, 5, 5, 5, 5, 5, 5] | false => none
theorem eqt {B0 : Nat} {old : Nat → Option (List Value)} {t : Nat} {r : List Nat} (h : leT t = some r) : EqT (cx B0 old) t r := by
  unfold leT at h
  split at h
  · rename_i e; have e := Nat.eq_of_beq_eq_true e; subst e; cases h; exact eqt_7
  split at h
  · rename_i e; have e := Nat.eq_of_beq_eq_true e; subst e; cases h; exact eqt_8
  split at h
  · rename_i e; have e := Nat.eq_of_beq_eq_true e; subst e; cases h; exact eqt_35
  split at h
  · rename_i e; have e := Nat.eq_of_beq_eq_true e; subst e; cases h; exact eqt_36
  split at h
  · rename_i e; have e := Nat.eq_of_beq_eq_true e; subst e; cases h; exact eqt_40
  split at h
  · rename_i e; have e := Nat.eq_of_beq_eq_true e; subst e; cases h; exact eqt_41
  split at h
  · rename_i e; have e := Nat.eq_of_beq_eq_true e; subst e; cases h; exact eqt_42
  split at h
  · rename_i e; have e := Nat.eq_of_beq_eq_true e; subst e; cases h; exact eqt_43
  split at h
  · rename_i e; have e := Nat.eq_of_beq_eq_true e; subst e; cases h; exact eqt_47
  split at h
  · rename_i e; have e := Nat.eq_of_beq_eq_true e; subst e; cases h; exact eqt_48
  split at h
  · rename_i e; have e := Nat.eq_of_beq_eq_true e; subst e; cases h; exact eqt_90
  split at h
  · rename_i e; have e := Nat.eq_of_beq_eq_true e; subst e; cases h; exact eqt_91
  split at h
  · rename_i e; have e := Nat.eq_of_beq_eq_true e; subst e; cases h; exact eqt_113
  split at h
  · rename_i e; have e := Nat.eq_of_beq_eq_true e; subst e; cases h; exact eqt_114
  cases h
def apT : List (Nat × Nat × Nat) := [(22, 39, 232), (44, 1, 4), (45, 1, 4), (46, 8, 8), (58, 38, 224), (74, 21, 80), (115, 22, 88), (152, 1, 8)]
theorem apT_ok (B0 : Nat) (old : Nat → Option (List Value)) : apT.all (fun e => match appT (cx B0 old) e.1 e.1 with | some n => Nat.beq n.1 e.2.1 && Nat.beq n.2 e.2.2 | none => false) = true := by kernel_rfl
theorem ap {B0 : Nat} {old : Nat → Option (List Value)} {t : Nat} {n : Nat × Nat} (h : lkA apT t = some n) : appT (cx B0 old) t t = some n := by
  have h1 := List.all_eq_true.1 (apT_ok B0 old) _ (lkA_mem _ _ _ h)
  simp only at h1
  split at h1
  · rename_i m e
    rw [e]
    clear e h
    simp only [Bool.and_eq_true] at h1
    have a1 := Nat.eq_of_beq_eq_true h1.1
    have a2 := Nat.eq_of_beq_eq_true h1.2
    clear h1
    obtain ⟨m1, m2⟩ := m
    obtain ⟨n1, n2⟩ := n
    simp only at a1 a2
    subst a1
    subst a2
    rfl
  · cases h1
theorem zr_52 {B0 : Nat} {old : Nat → Option (List Value)} : zeroL (cx B0 old) 52 = some ([.int .i64 0, .int .u64 0, .int .u8 0, .int .u8 0, .int .u8 0, .int .u8 0, .int .u8 0, .int .u8 0, .int .u8 0, .int .u8 0, .int .u8 0, .int .u8 0, .int .u32 0, .int .u64 0, .int .u32 0, .bool false, .int .u32 0, .int .i64 0, .int .u32 0, .int .u32 0, .int .u32 0, .int .i64 0, .slice none 0 0, .int .u32 0, .bool false, .int .u32 0, .bool false, .int .u32 0, .bool false, .int .u32 0, .slice none 0 0, .slice none 0 0, .int .i64 0, .int .u32 0, .int .u32 0, .int .u32 0, .int .u32 0, .bool false], 38) := by kernel_rfl
theorem zr_54 {B0 : Nat} {old : Nat → Option (List Value)} : zeroL (cx B0 old) 54 = some ([.int .i64 0, .int .i64 0, .int .u64 0, .int .u8 0, .int .u8 0, .int .u8 0, .int .u8 0, .int .u8 0, .int .u8 0, .int .u8 0, .int .u8 0, .int .u8 0, .int .u8 0, .int .u32 0, .int .u64 0, .int .u32 0, .bool false, .int .u32 0, .int .i64 0, .int .u32 0, .int .u32 0, .int .u32 0, .int .i64 0, .slice none 0 0, .int .u32 0, .bool false, .int .u32 0, .bool false, .int .u32 0, .bool false, .int .u32 0, .slice none 0 0, .slice none 0 0, .int .i64 0, .int .u32 0, .int .u32 0, .int .u32 0, .int .u32 0, .bool false], 39) := by kernel_rfl
theorem zr_43 {B0 : Nat} {old : Nat → Option (List Value)} : zeroL (cx B0 old) 43 = some ([.int .i64 0, .int .u64 0, .int .u8 0, .int .u8 0, .int .u8 0, .int .u8 0, .int .u8 0, .int .u8 0, .int .u8 0, .int .u8 0, .int .u8 0, .int .u8 0, .int .u32 0, .int .u64 0, .int .u32 0, .bool false, .int .u32 0, .int .i64 0, .int .u32 0, .int .u32 0, .int .u32 0], 21) := by kernel_rfl
theorem zr_86 {B0 : Nat} {old : Nat → Option (List Value)} : zeroL (cx B0 old) 86 = some ([.int .i64 0, .map none], 2) := by kernel_rfl
theorem zr_88 {B0 : Nat} {old : Nat → Option (List Value)} : zeroL (cx B0 old) 88 = some ([.slice none 0 0, .int .i64 0], 2) := by kernel_rfl
theorem zr_91 {B0 : Nat} {old : Nat → Option (List Value)} : zeroL (cx B0 old) 91 = some ([.int .i64 0, .int .u64 0, .int .u8 0, .int .u8 0, .int .u8 0, .int .u8 0, .int .u8 0, .int .u8 0, .int .u8 0, .int .u8 0, .int .u8 0, .int .u8 0, .int .u32 0, .int .u64 0, .int .u32 0, .bool false, .int .u32 0, .int .i64 0, .int .u32 0, .int .u32 0, .int .u32 0, .int .u32 0], 22) := by kernel_rfl
theorem zr_36 {B0 : Nat} {old : Nat → Option (List Value)} : zeroL (cx B0 old) 36 = some ([.int .u8 0, .int .u8 0, .int .u8 0, .int .u8 0, .int .u8 0, .int .u8 0, .int .u8 0, .int .u8 0, .int .u8 0, .int .u8 0], 10) := by kernel_rfl
theorem zr_50 {B0 : Nat} {old : Nat → Option (List Value)} : zeroL (cx B0 old) 50 = some ([.int .i64 0, .slice none 0 0, .int .u32 0, .bool false, .int .u32 0, .bool false, .int .u32 0, .bool false, .int .u32 0, .slice none 0 0, .slice none 0 0, .int .i64 0, .int .u32 0, .int .u32 0, .int .u32 0], 15) := by kernel_rfl
theorem zr_41 {B0 : Nat} {old : Nat → Option (List Value)} : zeroL (cx B0 old) 41 = some ([.int .u32 0, .int .i64 0], 2) := by kernel_rfl
theorem zr_48 {B0 : Nat} {old : Nat → Option (List Value)} : zeroL (cx B0 old) 48 = some ([.int .i64 0, .int .u32 0, .int .u32 0, .int .u32 0], 4) := by kernel_rfl
theorem zr_3 {B0 : Nat} {old : Nat → Option (List Value)} : zeroL (cx B0 old) 3 = some ([.int .i64 0], 1) := by kernel_rfl
theorem zr_37 {B0 : Nat} {old : Nat → Option (List Value)} : zeroL (cx B0 old) 37 = some ([.int .u32 0], 1) := by kernel_rfl
theorem zr_39 {B0 : Nat} {old : Nat → Option (List Value)} : zeroL (cx B0 old) 39 = some ([.int .u32 0], 1) := by kernel_rfl
theorem zr_114 {B0 : Nat} {old : Nat → Option (List Value)} : zeroL (cx B0 old) 114 = some ([.int .u8 0, .int .u8 0, .int .u8 0, .int .u8 0, .int .u8 0, .int .u8 0, .int .u8 0, .int .u8 0], 8) := by kernel_rfl
theorem zr_164 {B0 : Nat} {old : Nat → Option (List Value)} : zeroL (cx B0 old) 164 = some ([.int .u64 0], 1) := by kernel_rfl
def zT (t : Nat) : Option (List Value × Nat) := match Nat.beq t 52 with | true => some ([.int .i64 0, .int .u64 0, .int .u8 0, .int .u8 0, .int .u8 0, .int .u8 0, .int .u8 0, .int .u8 0, .int .u8 0, .int .u8 0, .int .u8 0, .int .u8 0, .int .u32 0, .int .u64 0, .int .u32 0, .bool false, .int .u32 0, .int .i64 0, .int .u32 0, .int .u32 0, .int .u32 0, .int .i64 0, .slice none 0 0, .int .u32 0, .bool false, .int .u32 0, .bool false, .int .u32 0, .bool false, .int .u32 0, .slice none 0 0, .slice none 0 0, .int .i64 0, .int .u32 0, .int .u32 0, .int .u32 0, .int .u32 0, .bool false], 38) | false => match Nat.beq t 54 with | true => some ([.int .i64 0, .int .i64 0, .int .u64 0, .int .u8 0, .int .u8 0, .int .u8 0, .int .u8 0, .int .u8 0, .int .u8 0, .int .u8 0, .int .u8 0, .int .u8 0, .int .u8 0, .int .u32 0, .int .u64 0, .int .u32 0, .bool false, .int .u32 0, .int .i64 0, .int .u32 0, .int .u32 0, .int .u32 0, .int .i64 0, .slice none 0 0, .int .u32 0, .bool false, .int .u32 0, .bool false, .int .u32 0, .bool false, .int .u32 0, .slice none 0 0, .slice none 0 0, .int .i64 0, .int .u32 0, .int .u32 0, .int .u32 0, .int .u32 0, .bool false], 39) | false => match Nat.beq t 43 with | true => some ([.int .i64 0, .int .u64 0, .int .u8 0, .int .u8 0, .int .u8 0, .int .u8 0, .int .u8 0, .int .u8 0, .int .u8 0, .int .u8 0, .int .u8 0, .int .u8 0, .int .u32 0, .int .u64 0, .int .u32 0, .bool false, .int .u32 0, .int .i64 0, .int .u32 0, .int .u32 0, .int .u32 0], 21) | false => match Nat.beq t 86 with | true => some ([.int .i64 0, .map none], 2) | false => match Nat.beq t 88 with | true => some ([.slice none 0 0, .int .i64 0], 2) | false => match Nat.beq t 91 with | true => some ([.int .i64 0, .int .u64 0, .int .u8 0, .int .u8 0, .int .u8 0, .int .u8 0, .int .u8 0, .int .u8 0, .int .u8 0, .int .u8 0, .int .u8 0, .int .u8 0, .int .u32 0, .int .u64 0, .int .u32 0, .bool false, .int .u32 0, .int .i64 0, .int .u32 0, .int .u32 0, .int .u32 0, .int .u32 0], 22) | false => match Nat.beq t 36 with | true => some ([.int .u8 0, .int .u8 0, .int .u8 0, .int .u8 0, .int .u8 0, .int .u8 0, .int .u8 0, .int .u8 0, .int .u8 0, .int .u8 0], 10) | false => match Nat.beq t 50 with | true => some ([.int .i64 0, .slice none 0 0, .int .u32 0, .bool false, .int .u32 0, .bool false, .int .u32 0, .bool false, .int .u32 0, .slice none 0 0, .slice none 0 0, .int .i64 0, .int .u32 0, .int .u32 0, .int .u32 0], 15) | false => match Nat.beq t 41 with | true => some ([.int .u32 0, .int .i64 0], 2) | false => match Nat.beq t 48 with | true => some ([.int .i64 0, .int .u32 0, .int .u32 0, .int .u32 0], 4) | false => match Nat.beq t 3 with | true => some ([.int .i64 0], 1) | false => match Nat.beq t 37 with | true => some ([.int .u32 0], 1) | false => match Nat.beq t 39 with | true => some ([.int .u32 0], 1) | false => match Nat.beq t 114 with | true => some ([.int .u8 0, .int .u8 0, .int .u8 0, .int .u8 0, .int .u8 0, .int .u8 0, .int .u8 0, .int .u8 0], 8) | false => match Nat.beq t 164 with | true => some ([.int .u64 0], 1) | false => none
theorem zr {B0 : Nat} {old : Nat → Option (List Value)} {t : Nat} {r : List Value × Nat} (h : zT t = some r) : zeroL (cx B0 old) t = some r := by
  unfold zT at h
  split at h
  · rename_i e; have e := Nat.eq_of_beq_eq_true e; subst e; cases h; exact zr_52
  split at h
  · rename_i e; have e := Nat.eq_of_beq_eq_true e; subst e; cases h; exact zr_54
  split at h
  · rename_i e; have e := Nat.eq_of_beq_eq_true e; subst e; cases h; exact zr_43
  split at h
  · rename_i e; have e := Nat.eq_of_beq_eq_true e; subst e; cases h; exact zr_86
  split at h
  · rename_i e; have e := Nat.eq_of_beq_eq_true e; subst e; cases h; exact zr_88
  split at h
  · rename_i e; have e := Nat.eq_of_beq_eq_true e; subst e; cases h; exact zr_91
  split at h
  · rename_i e; have e := Nat.eq_of_beq_eq_true e; subst e; cases h; exact zr_36
  split at h
  · rename_i e; have e := Nat.eq_of_beq_eq_true e; subst e; cases h; exact zr_50
  split at h
  · rename_i e; have e := Nat.eq_of_beq_eq_true e; subst e; cases h; exact zr_41
  split at h
  · rename_i e; have e := Nat.eq_of_beq_eq_true e; subst e; cases h; exact zr_48
  split at h
  · rename_i e; have e := Nat.eq_of_beq_eq_true e; subst e; cases h; exact zr_3
  split at h
  · rename_i e; have e := Nat.eq_of_beq_eq_true e; subst e; cases h; exact zr_37
  split at h
  · rename_i e; have e := Nat.eq_of_beq_eq_true e; subst e; cases h; exact zr_39
  split at h
  · rename_i e; have e := Nat.eq_of_beq_eq_true e; subst e; cases h; exact zr_114
  split at h
  · rename_i e; have e := Nat.eq_of_beq_eq_true e; subst e; cases h; exact zr_164
  cases h
end Go.Proofs.YtphadapcafibpaaGreat.Abs
