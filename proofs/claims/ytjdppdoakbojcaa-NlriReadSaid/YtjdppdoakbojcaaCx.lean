/- The context of this seat's symbolic runs: the program, the contract of the chapter's closed examples, the table of fields. -/
import Derived.Test.YtjdppdoakbojcaaRows
import Derived.KernelRfl
import Derived.Test.YtjdppdoakbojcaaSep4
namespace Go.Proofs.Ytjdppdoakbojcaa.Abs
open Go
/-- The closed examples answer true. -/
def extS (f : FuncId) (args : List Value) : Option Value := match Nat.beq f 20 || Nat.beq f 34 || Nat.beq f 52, args with
  | true, [] => some (.bool true)
  | _, _ => none
noncomputable def cx (B0 : Nat) (old : Nat → Option (List Value)) : Ctx := { P := Try.prog, B0, old, ext := extS }
def lk : List (Nat × Nat × Nat) → Nat → Nat → Option Nat
  | [], _, _ => none
  | (a, b, n) :: r, t, f => match Nat.beq a t with
    | true => (match Nat.beq b f with
      | true => some n
      | false => lk r t f)
    | false => lk r t f
def foT : List (Nat × Nat × Nat) := [(7, 0, 0), (7, 1, 1), (7, 2, 2), (7, 3, 3), (8, 0, 0), (8, 1, 1), (8, 2, 2), (8, 3, 3), (13, 0, 0), (13, 1, 1), (14, 0, 0), (14, 1, 1), (18, 0, 0), (19, 0, 0), (26, 0, 0), (26, 1, 1), (26, 2, 2), (26, 3, 3), (26, 4, 4), (27, 0, 0), (27, 1, 1), (27, 2, 2), (27, 3, 3), (27, 4, 4), (28, 0, 0), (28, 1, 1), (28, 2, 2), (28, 3, 3), (28, 4, 4), (28, 5, 5), (29, 0, 0), (29, 1, 1), (29, 2, 2), (29, 3, 3), (29, 4, 4), (29, 5, 5), (30, 0, 0), (30, 1, 1), (30, 2, 2), (30, 3, 3), (30, 4, 8), (30, 5, 14), (31, 0, 0), (31, 1, 1), (31, 2, 2), (31, 3, 3), (31, 4, 8), (31, 5, 14), (32, 0, 0), (32, 1, 1), (32, 2, 2), (32, 3, 3), (32, 4, 4), (32, 5, 5), (32, 6, 6), (33, 0, 0), (33, 1, 1), (33, 2, 2), (33, 3, 3), (33, 4, 4), (33, 5, 5), (33, 6, 6), (44, 0, 0), (44, 1, 1), (45, 0, 0), (45, 1, 1), (57, 0, 0), (57, 1, 1), (58, 0, 0), (58, 1, 1), (59, 0, 0), (59, 1, 1), (59, 2, 2), (59, 3, 12), (59, 4, 13), (59, 5, 14), (59, 6, 15), (59, 7, 16), (59, 8, 18), (59, 9, 19), (59, 10, 20), (60, 0, 0), (60, 1, 1), (60, 2, 2), (60, 3, 12), (60, 4, 13), (60, 5, 14), (60, 6, 15), (60, 7, 16), (60, 8, 18), (60, 9, 19), (60, 10, 20), (130, 0, 0), (130, 1, 1), (130, 2, 2), (130, 3, 3), (131, 0, 0), (131, 1, 1), (131, 2, 2), (131, 3, 3), (132, 0, 0), (132, 1, 4), (133, 0, 0), (133, 1, 4), (134, 0, 0), (134, 1, 5), (134, 2, 6), (135, 0, 0), (135, 1, 5), (135, 2, 6), (181, 0, 0), (181, 1, 1), (181, 2, 2), (182, 0, 0), (182, 1, 1), (182, 2, 2), (183, 0, 0), (183, 1, 1), (184, 0, 0), (184, 1, 1), (185, 0, 0), (185, 1, 2), (185, 2, 3), (185, 3, 5), (186, 0, 0), (186, 1, 2), (186, 2, 3), (186, 3, 5), (187, 0, 0), (188, 0, 0), (189, 0, 0), (190, 0, 0), (197, 0, 0), (197, 1, 1), (197, 2, 2), (197, 3, 3), (198, 0, 0), (198, 1, 1), (198, 2, 2), (198, 3, 3), (208, 0, 0), (208, 1, 1), (208, 2, 2), (208, 3, 3), (208, 4, 4), (208, 5, 5), (208, 6, 6), (208, 7, 7), (208, 8, 8), (208, 9, 9), (208, 10, 10), (209, 0, 0), (209, 1, 1), (209, 2, 2), (209, 3, 3), (209, 4, 4), (209, 5, 5), (209, 6, 6), (209, 7, 7), (209, 8, 8), (209, 9, 9), (209, 10, 10)]
theorem lk_mem : ∀ (l : List (Nat × Nat × Nat)) (t f n : Nat), lk l t f = some n → (t, f, n) ∈ l
  | [], _, _, _, h => by cases h
  | (a, b, m) :: r, t, f, n, h => by
    unfold lk at h
    split at h
    · rename_i e
      have e := Nat.eq_of_beq_eq_true e
      subst e
      split at h
      · rename_i e2
        have e2 := Nat.eq_of_beq_eq_true e2
        subst e2
        cases h
        exact List.Mem.head _
      · exact List.Mem.tail _ (lk_mem r _ _ _ h)
    · exact List.Mem.tail _ (lk_mem r _ _ _ h)
theorem foT_ok (B0 : Nat) (old : Nat → Option (List Value)) : foT.all (fun e => match fldOff (cx B0 old) e.1 e.2.1 with | some n => Nat.beq n e.2.2 | none => false) = true := by kernel_rfl
theorem ft {B0 : Nat} {old : Nat → Option (List Value)} {t f n : Nat} (h : lk foT t f = some n) : fldOff (cx B0 old) t f = some n := by
  have h1 := List.all_eq_true.1 (foT_ok B0 old) _ (lk_mem _ _ _ _ h)
  simp only at h1
  split at h1
  · rename_i m e; rw [e, Nat.eq_of_beq_eq_true h1]
  · cases h1
def lk2 : List (Nat × Nat) → Nat → Option Nat
  | [], _ => none
  | (a, n) :: r, t => match Nat.beq a t with
    | true => some n
    | false => lk2 r t
theorem lk2_mem : ∀ (l : List (Nat × Nat)) (t n : Nat), lk2 l t = some n → (t, n) ∈ l
  | [], _, _, h => by cases h
  | (a, m) :: r, t, n, h => by
    unfold lk2 at h
    split at h
    · rename_i e
      have e := Nat.eq_of_beq_eq_true e
      subst e
      cases h
      exact List.Mem.head _
    · exact List.Mem.tail _ (lk2_mem r _ _ h)
def szT : List (Nat × Nat) := [(0, 1), (1, 1), (2, 1), (3, 1), (4, 1), (5, 1), (6, 1), (7, 4), (8, 4), (9, 1), (10, 1), (11, 1), (12, 1), (13, 2), (14, 2), (15, 1), (16, 1), (17, 1), (18, 1), (19, 1), (20, 1), (21, 1), (22, 1), (23, 1), (24, 1), (25, 1), (26, 5), (27, 5), (28, 6), (29, 6), (30, 15), (31, 15), (32, 21), (33, 21), (34, 1), (35, 1), (36, 1), (37, 1), (38, 1), (39, 1), (40, 1), (41, 1), (42, 1), (43, 1), (44, 2), (45, 2), (46, 1), (47, 1), (48, 1), (49, 1), (50, 1), (51, 1), (52, 1), (53, 1), (54, 1), (55, 10), (56, 10), (57, 2), (58, 2), (59, 21), (60, 21), (61, 1), (62, 1), (63, 1), (64, 1), (65, 1), (66, 1), (67, 1), (68, 1), (69, 1), (70, 1), (71, 1), (72, 1), (73, 1), (74, 1), (75, 1), (76, 1), (77, 1), (78, 1), (79, 1), (80, 1), (81, 1), (82, 1), (83, 1), (84, 1), (85, 1), (86, 1), (87, 1), (88, 1), (89, 1), (90, 1), (91, 1), (92, 1), (93, 1), (94, 1), (95, 1), (96, 1), (97, 1), (98, 1), (99, 1), (100, 1), (101, 1), (102, 1), (103, 1), (104, 1), (105, 1), (106, 1), (107, 1), (108, 1), (109, 1), (110, 1), (111, 1), (112, 1), (113, 1), (114, 1), (115, 1), (116, 1), (117, 1), (118, 1), (119, 1), (120, 1), (121, 1), (122, 1), (123, 1), (124, 1), (125, 1), (126, 1), (127, 1), (128, 1), (129, 1), (130, 4), (131, 4), (132, 5), (133, 5), (134, 7), (135, 7), (136, 1), (137, 1), (138, 1), (139, 1), (140, 1), (141, 1), (142, 1), (143, 1), (144, 1), (145, 1), (146, 1), (147, 1), (148, 1), (149, 0), (150, 0), (151, 0), (152, 0), (153, 0), (154, 0), (155, 1), (156, 1), (157, 1), (158, 1), (159, 1), (160, 1), (161, 1), (162, 1), (163, 1), (164, 1), (165, 1), (166, 1), (167, 1), (168, 1), (169, 1), (170, 1), (171, 1), (172, 1), (173, 1), (174, 28), (175, 1), (176, 20), (177, 1), (178, 1), (179, 1), (180, 1), (181, 3), (182, 3), (183, 2), (184, 2), (185, 6), (186, 6), (187, 5), (188, 5), (189, 6), (190, 6), (191, 0), (192, 1), (193, 1), (194, 8), (195, 1), (196, 1), (197, 4), (198, 4), (199, 0), (200, 0), (201, 0), (202, 1), (203, 1), (204, 1), (205, 1), (206, 1), (207, 1), (208, 11), (209, 11), (210, 1), (211, 1), (212, 1), (213, 1), (214, 1), (215, 1), (216, 1), (217, 1), (218, 1), (219, 1)]
theorem szT_ok (B0 : Nat) (old : Nat → Option (List Value)) : szT.all (fun e => match sizeAt (cx B0 old) e.1 with | some n => Nat.beq n e.2 | none => false) = true := by kernel_rfl
theorem sz {B0 : Nat} {old : Nat → Option (List Value)} {t n : Nat} (h : lk2 szT t = some n) : sizeAt (cx B0 old) t = some n := by
  have h1 := List.all_eq_true.1 (szT_ok B0 old) _ (lk2_mem _ _ _ h)
  simp only at h1
  split at h1
  · rename_i m e; rw [e, Nat.eq_of_beq_eq_true h1]
  · cases h1
def esT : List (Nat × Nat) := [(34, 1), (50, 21), (51, 1), (71, 21), (136, 1)]
theorem esT_ok (B0 : Nat) (old : Nat → Option (List Value)) : esT.all (fun e => match elSize (cx B0 old) e.1 with | some n => Nat.beq n e.2 | none => false) = true := by kernel_rfl
theorem es {B0 : Nat} {old : Nat → Option (List Value)} {t n : Nat} (h : lk2 esT t = some n) : elSize (cx B0 old) t = some n := by
  have h1 := List.all_eq_true.1 (esT_ok B0 old) _ (lk2_mem _ _ _ h)
  simp only at h1
  split at h1
  · rename_i m e; rw [e, Nat.eq_of_beq_eq_true h1]
  · cases h1
def arT : List (Nat × Nat × Nat) := [(55, 10, 1), (56, 10, 1), (174, 28, 1), (176, 20, 1), (194, 8, 1), (199, 0, 1)]
def lkA : List (Nat × Nat × Nat) → Nat → Option (Nat × Nat)
  | [], _ => none
  | (a, n) :: r, t => match Nat.beq a t with
    | true => some n
    | false => lkA r t
theorem lkA_mem : ∀ (l : List (Nat × Nat × Nat)) (t : Nat) (n : Nat × Nat), lkA l t = some n → (t, n) ∈ l
  | [], _, _, h => by cases h
  | (a, m) :: r, t, n, h => by
    unfold lkA at h
    split at h
    · rename_i e
      have e := Nat.eq_of_beq_eq_true e
      subst e
      cases h
      exact List.Mem.head _
    · exact List.Mem.tail _ (lkA_mem r _ _ h)
theorem arT_ok (B0 : Nat) (old : Nat → Option (List Value)) : arT.all (fun e => match arSize (cx B0 old) e.1 with | some n => Nat.beq n.1 e.2.1 && Nat.beq n.2 e.2.2 | none => false) = true := by kernel_rfl
theorem ar {B0 : Nat} {old : Nat → Option (List Value)} {t : Nat} {n : Nat × Nat} (h : lkA arT t = some n) : arSize (cx B0 old) t = some n := by
  have h1 := List.all_eq_true.1 (arT_ok B0 old) _ (lkA_mem _ _ _ h)
  simp only at h1
  split at h1
  · rename_i m e
    rw [e]
    clear e h
    simp only [Bool.and_eq_true] at h1
    have a1 := Nat.eq_of_beq_eq_true h1.1
    have a2 := Nat.eq_of_beq_eq_true h1.2
    clear h1
    obtain ⟨m1, m2⟩ := m
    obtain ⟨n1, n2⟩ := n
    simp only at a1 a2
    subst a1
    subst a2
    rfl
  · cases h1
theorem eqt_7 {B0 : Nat} {old : Nat → Option (List Value)} : EqT (cx B0 old) 7 [2, 3, 4, 6] := ⟨by kernel_rfl, by kernel_rfl, by kernel_rfl⟩
theorem eqt_8 {B0 : Nat} {old : Nat → Option (List Value)} : EqT (cx B0 old) 8 [2, 3, 4, 6] := ⟨by kernel_rfl, by kernel_rfl, by kernel_rfl⟩
theorem eqt_26 {B0 : Nat} {old : Nat → Option (List Value)} : EqT (cx B0 old) 26 [3, 25, 23, 25, 23] := ⟨by kernel_rfl, by kernel_rfl, by kernel_rfl⟩
theorem eqt_27 {B0 : Nat} {old : Nat → Option (List Value)} : EqT (cx B0 old) 27 [3, 25, 23, 25, 23] := ⟨by kernel_rfl, by kernel_rfl, by kernel_rfl⟩
theorem eqt_28 {B0 : Nat} {old : Nat → Option (List Value)} : EqT (cx B0 old) 28 [23, 23, 3, 3, 3, 3] := ⟨by kernel_rfl, by kernel_rfl, by kernel_rfl⟩
theorem eqt_29 {B0 : Nat} {old : Nat → Option (List Value)} : EqT (cx B0 old) 29 [23, 23, 3, 3, 3, 3] := ⟨by kernel_rfl, by kernel_rfl, by kernel_rfl⟩
theorem eqt_30 {B0 : Nat} {old : Nat → Option (List Value)} : EqT (cx B0 old) 30 [25, 25, 3, 3, 25, 23, 25, 23, 23, 23, 3, 3, 3, 3, 24] := ⟨by kernel_rfl, by kernel_rfl, by kernel_rfl⟩
theorem eqt_31 {B0 : Nat} {old : Nat → Option (List Value)} : EqT (cx B0 old) 31 [25, 25, 3, 3, 25, 23, 25, 23, 23, 23, 3, 3, 3, 3, 24] := ⟨by kernel_rfl, by kernel_rfl, by kernel_rfl⟩
theorem eqt_32 {B0 : Nat} {old : Nat → Option (List Value)} : EqT (cx B0 old) 32 [23, 23, 3, 3, 22, 22, 25, 25, 3, 3, 25, 23, 25, 23, 23, 23, 3, 3, 3, 3, 24] := ⟨by kernel_rfl, by kernel_rfl, by kernel_rfl⟩
theorem eqt_33 {B0 : Nat} {old : Nat → Option (List Value)} : EqT (cx B0 old) 33 [23, 23, 3, 3, 22, 22, 25, 25, 3, 3, 25, 23, 25, 23, 23, 23, 3, 3, 3, 3, 24] := ⟨by kernel_rfl, by kernel_rfl, by kernel_rfl⟩
theorem eqt_44 {B0 : Nat} {old : Nat → Option (List Value)} : EqT (cx B0 old) 44 [36, 3] := ⟨by kernel_rfl, by kernel_rfl, by kernel_rfl⟩
theorem eqt_45 {B0 : Nat} {old : Nat → Option (List Value)} : EqT (cx B0 old) 45 [36, 3] := ⟨by kernel_rfl, by kernel_rfl, by kernel_rfl⟩
theorem eqt_55 {B0 : Nat} {old : Nat → Option (List Value)} : EqT (cx B0 old) 55 [5, 5, 5, 5, 5, 5, 5, 5, 5, 5] := ⟨by kernel_rfl, by kernel_rfl, by kernel_rfl⟩
theorem eqt_56 {B0 : Nat} {old : Nat → Option (List Value)} : EqT (cx B0 old) 56 [5, 5, 5, 5, 5, 5, 5, 5, 5, 5] := ⟨by kernel_rfl, by kernel_rfl, by kernel_rfl⟩
theorem eqt_57 {B0 : Nat} {old : Nat → Option (List Value)} : EqT (cx B0 old) 57 [23, 3] := ⟨by kernel_rfl, by kernel_rfl, by kernel_rfl⟩
theorem eqt_58 {B0 : Nat} {old : Nat → Option (List Value)} : EqT (cx B0 old) 58 [23, 3] := ⟨by kernel_rfl, by kernel_rfl, by kernel_rfl⟩
theorem eqt_59 {B0 : Nat} {old : Nat → Option (List Value)} : EqT (cx B0 old) 59 [3, 24, 5, 5, 5, 5, 5, 5, 5, 5, 5, 5, 22, 25, 23, 4, 23, 3, 23, 22, 22] := ⟨by kernel_rfl, by kernel_rfl, by kernel_rfl⟩
theorem eqt_60 {B0 : Nat} {old : Nat → Option (List Value)} : EqT (cx B0 old) 60 [3, 24, 5, 5, 5, 5, 5, 5, 5, 5, 5, 5, 22, 25, 23, 4, 23, 3, 23, 22, 22] := ⟨by kernel_rfl, by kernel_rfl, by kernel_rfl⟩
theorem eqt_130 {B0 : Nat} {old : Nat → Option (List Value)} : EqT (cx B0 old) 130 [3, 23, 23, 3] := ⟨by kernel_rfl, by kernel_rfl, by kernel_rfl⟩
theorem eqt_131 {B0 : Nat} {old : Nat → Option (List Value)} : EqT (cx B0 old) 131 [3, 23, 23, 3] := ⟨by kernel_rfl, by kernel_rfl, by kernel_rfl⟩
theorem eqt_132 {B0 : Nat} {old : Nat → Option (List Value)} : EqT (cx B0 old) 132 [3, 23, 23, 3, 3] := ⟨by kernel_rfl, by kernel_rfl, by kernel_rfl⟩
theorem eqt_133 {B0 : Nat} {old : Nat → Option (List Value)} : EqT (cx B0 old) 133 [3, 23, 23, 3, 3] := ⟨by kernel_rfl, by kernel_rfl, by kernel_rfl⟩
theorem eqt_134 {B0 : Nat} {old : Nat → Option (List Value)} : EqT (cx B0 old) 134 [3, 23, 23, 3, 3, 22, 22] := ⟨by kernel_rfl, by kernel_rfl, by kernel_rfl⟩
theorem eqt_135 {B0 : Nat} {old : Nat → Option (List Value)} : EqT (cx B0 old) 135 [3, 23, 23, 3, 3, 22, 22] := ⟨by kernel_rfl, by kernel_rfl, by kernel_rfl⟩
theorem eqt_174 {B0 : Nat} {old : Nat → Option (List Value)} : EqT (cx B0 old) 174 [5, 5, 5, 5, 5, 5, 5, 5, 5, 5, 5, 5, 5, 5, 5, 5, 5, 5, 5, 5, 5, 5, 5, 5, 5, 5, 5, 5] := ⟨by kernel_rfl, by kernel_rfl, by kernel_rfl⟩
theorem eqt_176 {B0 : Nat} {old : Nat → Option (List Value)} : EqT (cx B0 old) 176 [5, 5, 5, 5, 5, 5, 5, 5, 5, 5, 5, 5, 5, 5, 5, 5, 5, 5, 5, 5] := ⟨by kernel_rfl, by kernel_rfl, by kernel_rfl⟩
theorem eqt_183 {B0 : Nat} {old : Nat → Option (List Value)} : EqT (cx B0 old) 183 [3, 3] := ⟨by kernel_rfl, by kernel_rfl, by kernel_rfl⟩
theorem eqt_184 {B0 : Nat} {old : Nat → Option (List Value)} : EqT (cx B0 old) 184 [3, 3] := ⟨by kernel_rfl, by kernel_rfl, by kernel_rfl⟩
theorem eqt_187 {B0 : Nat} {old : Nat → Option (List Value)} : EqT (cx B0 old) 187 [3, 25, 23, 25, 23] := ⟨by kernel_rfl, by kernel_rfl, by kernel_rfl⟩
theorem eqt_188 {B0 : Nat} {old : Nat → Option (List Value)} : EqT (cx B0 old) 188 [3, 25, 23, 25, 23] := ⟨by kernel_rfl, by kernel_rfl, by kernel_rfl⟩
theorem eqt_189 {B0 : Nat} {old : Nat → Option (List Value)} : EqT (cx B0 old) 189 [23, 23, 3, 3, 3, 3] := ⟨by kernel_rfl, by kernel_rfl, by kernel_rfl⟩
theorem eqt_190 {B0 : Nat} {old : Nat → Option (List Value)} : EqT (cx B0 old) 190 [23, 23, 3, 3, 3, 3] := ⟨by kernel_rfl, by kernel_rfl, by kernel_rfl⟩
theorem eqt_194 {B0 : Nat} {old : Nat → Option (List Value)} : EqT (cx B0 old) 194 [5, 5, 5, 5, 5, 5, 5, 5] := ⟨by kernel_rfl, by kernel_rfl, by kernel_rfl⟩
def leT (t : Nat) : Option (List Nat) := match Nat.beq t 7 with | true => some [2, 3, 4, 6] | false => match Nat.beq t 8 with | true => some [2, 3, 4, 6] | false => match Nat.beq t 26 with | true => some [3, 25, 23, 25, 23] | false => match Nat.beq t 27 with | true => some [3, 25, 23, 25, 23] | false => match Nat.beq t 28 with | true => some [23, 23, 3, 3, 3, 3] | false => match Nat.beq t 29 with | true => some [23, 23, 3, 3, 3, 3] | false => match Nat.beq t 30 with | true => some [25, 25, 3, 3, 25, 23, 25, 23, 23, 23, 3, 3, 3, 3, 24] | false => match Nat.beq t 31 with | true => some [25, 25, 3, 3, 25, 23, 25, 23, 23, 23, 3, 3, 3, 3, 24] | false => match Nat.beq t 32 with | true => some [23, 23, 3, 3, 22, 22, 25, 25, 3, 3, 25, 23, 25, 23, 23, 23, 3, 3, 3, 3, 24] | false => match Nat.beq t 33 with | true => some [23, 23, 3, 3, 22, 22, 25, 25, 3, 3, 25, 23, 25, 23, 23, 23, 3, 3, 3, 3, 24] | false => match Nat.beq t 44 with | true => some [36, 3] | false => match Nat.beq t 45 with | true => some [36, 3] | false => match Nat.beq t 55 with | true => some [5, 5, 5, 5, 5, 5, 5, 5, 5, 5] | false => match Nat.beq t 56 with | true => some [5, 5, 5, 5, 5, 5, 5, 5, 5, 5] | false => match Nat.beq t 57 with | true => some [23, 3] | false => match Nat.beq t 58 with | true => some [23, 3] | false => match Nat.beq t 59 with | true => some [3, 24, 5, 5, 5, 5, 5, 5, 5, 5, 5, 5, 22, 25, 23, 4, 23, 3, 23, 22, 22] | false => match Nat.beq t 60 with | true => some [3, 24, 5, 5, 5, 5, 5, 5, 5, 5, 5, 5, 22, 25, 23, 4, 23, 3, 23, 22, 22] | false => match Nat.beq t 130 with | true => some [3, 23, 23, 3] | false => match Nat.beq t 131 with | true => some [3, 23, 23, 3] | false => match Nat.beq t 132 with | true => some [3, 23, 23, 3, 3] | false => match Nat.beq t 133 with | true => some [3, 23, 23, 3, 3] | false => match Nat.beq t 134 with | true => some [3, 23, 23, 3, 3, 22, 22] | false => match Nat.beq t 135 with | true => some [3, 23, 23, 3, 3, 22, 22] | false => match Nat.beq t 174 with | true => some [5, 5, 5, 5, 5, 5, 5, 5, 5, 5, 5, 5, 5, 5, 5, 5, 5, 5, 5, 5, 5, 5, 5, 5, 5, 5, 5, 5] | false => match Nat.beq t 176 with | true => some [5, 5, 5, 5, 5, 5, 5, 5, 5, 5, 5, 5, 5, 5, 5, 5, 5, 5, 5, 5] | false => match Nat.beq t 183 with | true => some [3, 3] | false => match Nat.beq t 184 with | true => some [3, 3] | false => match Nat.beq t 187 with | true => some [3, 25, 23, 25, 23] | false => match Nat.beq t 188 with | true => some [3, 25, 23, 25, 23] | false => match Nat.beq t 189 with | true => some [23, 23, 3, 3, 3, 3] | false => match Nat.beq t 190 with | true => some [23, 23, 3, 3, 3, 3] | false => match Nat.beq t 194 with | true => some [5, 5, 5, 5, 5, 5, 5, 5] | false => none
theorem eqt {B0 : Nat} {old : Nat → Option (List Value)} {t : Nat} {r : List Nat} (h : leT t = some r) : EqT (cx B0 old) t r := by
  unfold leT at h
  split at h
  · rename_i e; have e := Nat.eq_of_beq_eq_true e; subst e; cases h; exact eqt_7
  split at h
  · rename_i e; have e := Nat.eq_of_beq_eq_true e; subst e; cases h; exact eqt_8
  split at h
  · rename_i e; have e := Nat.eq_of_beq_eq_true e; subst e; cases h; exact eqt_26
  split at h
  · rename_i e; have e := Nat.eq_of_beq_eq_true e; subst e; cases h; exact eqt_27
  split at h
  · rename_i e; have e := Nat.eq_of_beq_eq_true e; subst e; cases h; exact eqt_28
  split at h
  · rename_i e; have e := Nat.eq_of_beq_eq_true e; subst e; cases h; exact eqt_29
  split at h
  · rename_i e; have e := Nat.eq_of_beq_eq_true e; subst e; cases h; exact eqt_30
  split at h
  · rename_i e; have e := Nat.eq_of_beq_eq_true e; subst e; cases h; exact eqt_31
  split at h
  · rename_i e; have e := Nat.eq_of_beq_eq_true e; subst e; cases h; exact eqt_32
  split at h
  · rename_i e; have e := Nat.eq_of_beq_eq_true e; subst e; cases h; exact eqt_33
  split at h
  · rename_i e; have e := Nat.eq_of_beq_eq_true e; subst e; cases h; exact eqt_44
  split at h
  · rename_i e; have e := Nat.eq_of_beq_eq_true e; subst e; cases h; exact eqt_45
  split at h
  · rename_i e; have e := Nat.eq_of_beq_eq_true e; subst e; cases h; exact eqt_55
  split at h
  · rename_i e; have e := Nat.eq_of_beq_eq_true e; subst e; cases h; exact eqt_56
  split at h
  · rename_i e; have e := Nat.eq_of_beq_eq_true e; subst e; cases h; exact eqt_57
  split at h
  · rename_i e; have e := Nat.eq_of_beq_eq_true e; subst e; cases h; exact eqt_58
  split at h
  · rename_i e; have e := Nat.eq_of_beq_eq_true e; subst e; cases h; exact eqt_59
  split at h
  · rename_i e; have e := Nat.eq_of_beq_eq_true e; subst e; cases h; exact eqt_60
  split at h
  · rename_i e; have e := Nat.eq_of_beq_eq_true e; subst e; cases h; exact eqt_130
  split at h
  · rename_i e; have e := Nat.eq_of_beq_eq_true e; subst e; cases h; exact eqt_131
  split at h
  · rename_i e; have e := Nat.eq_of_beq_eq_true e; subst e; cases h; exact eqt_132
  split at h
  · rename_i e; have e := Nat.eq_of_beq_eq_true e; subst e; cases h; exact eqt_133
  split at h
  · rename_i e; have e := Nat.eq_of_beq_eq_true e; subst e; cases h; exact eqt_134
  split at h
  · rename_i e; have e := Nat.eq_of_beq_eq_true e; subst e; cases h; exact eqt_135
  split at h
  · rename_i e; have e := Nat.eq_of_beq_eq_true e; subst e; cases h; exact eqt_174
  split at h
  · rename_i e; have e := Nat.eq_of_beq_eq_true e; subst e; cases h; exact eqt_176
  split at h
  · rename_i e; have e := Nat.eq_of_beq_eq_true e; subst e; cases h; exact eqt_183
  split at h
  · rename_i e; have e := Nat.eq_of_beq_eq_true e; subst e; cases h; exact eqt_184
  split at h
  · rename_i e; have e := Nat.eq_of_beq_eq_true e; subst e; cases h; exact eqt_187
  split at h
  · rename_i e; have e := Nat.eq_of_beq_eq_true e; subst e; cases h; exact eqt_188
  split at h
  · rename_i e; have e := Nat.eq_of_beq_eq_true e; subst e; cases h; exact eqt_189
  split at h
  · rename_i e; have e := Nat.eq_of_beq_eq_true e; subst e; cases h; exact eqt_190
  split at h
  · rename_i e; have e := Nat.eq_of_beq_eq_true e; subst e; cases h; exact eqt_194
  cases h
def apT : List (Nat × Nat × Nat) := [(34, 1, 1), (50, 21, 144), (51, 1, 8), (71, 21, 80), (136, 1, 8)]
theorem apT_ok (B0 : Nat) (old : Nat → Option (List Value)) : apT.all (fun e => match appT (cx B0 old) e.1 e.1 with | some n => Nat.beq n.1 e.2.1 && Nat.beq n.2 e.2.2 | none => false) = true := by kernel_rfl
theorem ap {B0 : Nat} {old : Nat → Option (List Value)} {t : Nat} {n : Nat × Nat} (h : lkA apT t = some n) : appT (cx B0 old) t t = some n := by
  have h1 := List.all_eq_true.1 (apT_ok B0 old) _ (lkA_mem _ _ _ h)
  simp only at h1
  split at h1
  · rename_i m e
    rw [e]
    clear e h
    simp only [Bool.and_eq_true] at h1
    have a1 := Nat.eq_of_beq_eq_true h1.1
    have a2 := Nat.eq_of_beq_eq_true h1.2
    clear h1
    obtain ⟨m1, m2⟩ := m
    obtain ⟨n1, n2⟩ := n
    simp only at a1 a2
    subst a1
    subst a2
    rfl
  · cases h1
theorem zr_31 {B0 : Nat} {old : Nat → Option (List Value)} : zeroL (cx B0 old) 31 = some ([.int .u64 0, .int .u64 0, .int .i64 0, .int .i64 0, .int .u64 0, .int .u32 0, .int .u64 0, .int .u32 0, .int .u32 0, .int .u32 0, .int .i64 0, .int .i64 0, .int .i64 0, .int .i64 0, .int .u64 0], 15) := by kernel_rfl
theorem zr_33 {B0 : Nat} {old : Nat → Option (List Value)} : zeroL (cx B0 old) 33 = some ([.int .u32 0, .int .u32 0, .int .i64 0, .int .i64 0, .int .u32 0, .int .u32 0, .int .u64 0, .int .u64 0, .int .i64 0, .int .i64 0, .int .u64 0, .int .u32 0, .int .u64 0, .int .u32 0, .int .u32 0, .int .u32 0, .int .i64 0, .int .i64 0, .int .i64 0, .int .i64 0, .int .u64 0], 21) := by kernel_rfl
theorem zr_45 {B0 : Nat} {old : Nat → Option (List Value)} : zeroL (cx B0 old) 45 = some ([.int .i64 0, .int .i64 0], 2) := by kernel_rfl
theorem zr_36 {B0 : Nat} {old : Nat → Option (List Value)} : zeroL (cx B0 old) 36 = some ([.int .i64 0], 1) := by kernel_rfl
theorem zr_5 {B0 : Nat} {old : Nat → Option (List Value)} : zeroL (cx B0 old) 5 = some ([.int .u8 0], 1) := by kernel_rfl
theorem zr_60 {B0 : Nat} {old : Nat → Option (List Value)} : zeroL (cx B0 old) 60 = some ([.int .i64 0, .int .u64 0, .int .u8 0, .int .u8 0, .int .u8 0, .int .u8 0, .int .u8 0, .int .u8 0, .int .u8 0, .int .u8 0, .int .u8 0, .int .u8 0, .int .u32 0, .int .u64 0, .int .u32 0, .bool false, .int .u32 0, .int .i64 0, .int .u32 0, .int .u32 0, .int .u32 0], 21) := by kernel_rfl
theorem zr_58 {B0 : Nat} {old : Nat → Option (List Value)} : zeroL (cx B0 old) 58 = some ([.int .u32 0, .int .i64 0], 2) := by kernel_rfl
theorem zr_29 {B0 : Nat} {old : Nat → Option (List Value)} : zeroL (cx B0 old) 29 = some ([.int .u32 0, .int .u32 0, .int .i64 0, .int .i64 0, .int .i64 0, .int .i64 0], 6) := by kernel_rfl
theorem zr_3 {B0 : Nat} {old : Nat → Option (List Value)} : zeroL (cx B0 old) 3 = some ([.int .i64 0], 1) := by kernel_rfl
theorem zr_56 {B0 : Nat} {old : Nat → Option (List Value)} : zeroL (cx B0 old) 56 = some ([.int .u8 0, .int .u8 0, .int .u8 0, .int .u8 0, .int .u8 0, .int .u8 0, .int .u8 0, .int .u8 0, .int .u8 0, .int .u8 0], 10) := by kernel_rfl
theorem zr_71 {B0 : Nat} {old : Nat → Option (List Value)} : zeroL (cx B0 old) 71 = some ([.slice none 0 0], 1) := by kernel_rfl
theorem zr_103 {B0 : Nat} {old : Nat → Option (List Value)} : zeroL (cx B0 old) 103 = some ([.map none], 1) := by kernel_rfl
theorem zr_27 {B0 : Nat} {old : Nat → Option (List Value)} : zeroL (cx B0 old) 27 = some ([.int .i64 0, .int .u64 0, .int .u32 0, .int .u64 0, .int .u32 0], 5) := by kernel_rfl
theorem zr_24 {B0 : Nat} {old : Nat → Option (List Value)} : zeroL (cx B0 old) 24 = some ([.int .u64 0], 1) := by kernel_rfl
theorem zr_131 {B0 : Nat} {old : Nat → Option (List Value)} : zeroL (cx B0 old) 131 = some ([.int .i64 0, .int .u32 0, .int .u32 0, .int .i64 0], 4) := by kernel_rfl
theorem zr_133 {B0 : Nat} {old : Nat → Option (List Value)} : zeroL (cx B0 old) 133 = some ([.int .i64 0, .int .u32 0, .int .u32 0, .int .i64 0, .int .i64 0], 5) := by kernel_rfl
theorem zr_135 {B0 : Nat} {old : Nat → Option (List Value)} : zeroL (cx B0 old) 135 = some ([.int .i64 0, .int .u32 0, .int .u32 0, .int .i64 0, .int .i64 0, .int .u32 0, .int .u32 0], 7) := by kernel_rfl
theorem zr_150 {B0 : Nat} {old : Nat → Option (List Value)} : zeroL (cx B0 old) 150 = some ([], 0) := by kernel_rfl
theorem zr_151 {B0 : Nat} {old : Nat → Option (List Value)} : zeroL (cx B0 old) 151 = some ([], 0) := by kernel_rfl
theorem zr_152 {B0 : Nat} {old : Nat → Option (List Value)} : zeroL (cx B0 old) 152 = some ([], 0) := by kernel_rfl
theorem zr_153 {B0 : Nat} {old : Nat → Option (List Value)} : zeroL (cx B0 old) 153 = some ([], 0) := by kernel_rfl
theorem zr_154 {B0 : Nat} {old : Nat → Option (List Value)} : zeroL (cx B0 old) 154 = some ([], 0) := by kernel_rfl
theorem zr_182 {B0 : Nat} {old : Nat → Option (List Value)} : zeroL (cx B0 old) 182 = some ([.slice none 0 0, .int .i64 0, .map none], 3) := by kernel_rfl
theorem zr_184 {B0 : Nat} {old : Nat → Option (List Value)} : zeroL (cx B0 old) 184 = some ([.int .i64 0, .int .i64 0], 2) := by kernel_rfl
theorem zr_186 {B0 : Nat} {old : Nat → Option (List Value)} : zeroL (cx B0 old) 186 = some ([.int .i64 0, .int .i64 0, .slice none 0 0, .int .i64 0, .int .i64 0, .bool false], 6) := by kernel_rfl
theorem zr_188 {B0 : Nat} {old : Nat → Option (List Value)} : zeroL (cx B0 old) 188 = some ([.int .i64 0, .int .u64 0, .int .u32 0, .int .u64 0, .int .u32 0], 5) := by kernel_rfl
theorem zr_190 {B0 : Nat} {old : Nat → Option (List Value)} : zeroL (cx B0 old) 190 = some ([.int .u32 0, .int .u32 0, .int .i64 0, .int .i64 0, .int .i64 0, .int .i64 0], 6) := by kernel_rfl
theorem zr_191 {B0 : Nat} {old : Nat → Option (List Value)} : zeroL (cx B0 old) 191 = some ([], 0) := by kernel_rfl
theorem zr_194 {B0 : Nat} {old : Nat → Option (List Value)} : zeroL (cx B0 old) 194 = some ([.int .u8 0, .int .u8 0, .int .u8 0, .int .u8 0, .int .u8 0, .int .u8 0, .int .u8 0, .int .u8 0], 8) := by kernel_rfl
def zT (t : Nat) : Option (List Value × Nat) := match Nat.beq t 31 with | true => some ([.int .u64 0, .int .u64 0, .int .i64 0, .int .i64 0, .int .u64 0, .int .u32 0, .int .u64 0, .int .u32 0, .int .u32 0, .int .u32 0, .int .i64 0, .int .i64 0, .int .i64 0, .int .i64 0, .int .u64 0], 15) | false => match Nat.beq t 33 with | true => some ([.int .u32 0, .int .u32 0, .int .i64 0, .int .i64 0, .int .u32 0, .int .u32 0, .int .u64 0, .int .u64 0, .int .i64 0, .int .i64 0, .int .u64 0, .int .u32 0, .int .u64 0, .int .u32 0, .int .u32 0, .int .u32 0, .int .i64 0, .int .i64 0, .int .i64 0, .int .i64 0, .int .u64 0], 21) | false => match Nat.beq t 45 with | true => some ([.int .i64 0, .int .i64 0], 2) | false => match Nat.beq t 36 with | true => some ([.int .i64 0], 1) | false => match Nat.beq t 5 with | true => some ([.int .u8 0], 1) | false => match Nat.beq t 60 with | true => some ([.int .i64 0, .int .u64 0, .int .u8 0, .int .u8 0, .int .u8 0, .int .u8 0, .int .u8 0, .int .u8 0, .int .u8 0, .int .u8 0, .int .u8 0, .int .u8 0, .int .u32 0, .int .u64 0, .int .u32 0, .bool false, .int .u32 0, .int .i64 0, .int .u32 0, .int .u32 0, .int .u32 0], 21) | false => match Nat.beq t 58 with | true => some ([.int .u32 0, .int .i64 0], 2) | false => match Nat.beq t 29 with | true => some ([.int .u32 0, .int .u32 0, .int .i64 0, .int .i64 0, .int .i64 0, .int .i64 0], 6) | false => match Nat.beq t 3 with | true => some ([.int .i64 0], 1) | false => match Nat.beq t 56 with | true => some ([.int .u8 0, .int .u8 0, .int .u8 0, .int .u8 0, .int .u8 0, .int .u8 0, .int .u8 0, .int .u8 0, .int .u8 0, .int .u8 0], 10) | false => match Nat.beq t 71 with | true => some ([.slice none 0 0], 1) | false => match Nat.beq t 103 with | true => some ([.map none], 1) | false => match Nat.beq t 27 with | true => some ([.int .i64 0, .int .u64 0, .int .u32 0, .int .u64 0, .int .u32 0], 5) | false => match Nat.beq t 24 with | true => some ([.int .u64 0], 1) | false => match Nat.beq t 131 with | true => some ([.int .i64 0, .int .u32 0, .int .u32 0, .int .i64 0], 4) | false => match Nat.beq t 133 with | true => some ([.int .i64 0, .int .u32 0, .int .u32 0, .int .i64 0, .int .i64 0], 5) | false => match Nat.beq t 135 with | true => some ([.int .i64 0, .int .u32 0, .int .u32 0, .int .i64 0, .int .i64 0, .int .u32 0, .int .u32 0], 7) | false => match Nat.beq t 150 with | true => some ([], 0) | false => match Nat.beq t 151 with | true => some ([], 0) | false => match Nat.beq t 152 with | true => some ([], 0) | false => match Nat.beq t 153 with | true => some ([], 0) | false => match Nat.beq t 154 with | true => some ([], 0) | false => match Nat.beq t 182 with | true => some ([.slice none 0 0, .int .i64 0, .map none], 3) | false => match Nat.beq t 184 with | true => some ([.int .i64 0, .int .i64 0], 2) | false => match Nat.beq t 186 with | true => some ([.int .i64 0, .int .i64 0, .slice none 0 0, .int .i64 0, .int .i64 0, .bool false], 6) | false => match Nat.beq t 188 with | true => some ([.int .i64 0, .int .u64 0, .int .u32 0, .int .u64 0, .int .u32 0], 5) | false => match Nat.beq t 190 with | true => some ([.int .u32 0, .int .u32 0, .int .i64 0, .int .i64 0, .int .i64 0, .int .i64 0], 6) | false => match Nat.beq t 191 with | true => some ([], 0) | false => match Nat.beq t 194 with | true => some ([.int .u8 0, .int .u8 0, .int .u8 0, .int .u8 0, .int .u8 0, .int .u8 0, .int .u8 0, .int .u8 0], 8) | false => none
theorem zr {B0 : Nat} {old : Nat → Option (List Value)} {t : Nat} {r : List Value × Nat} (h : zT t = some r) : zeroL (cx B0 old) t = some r := by
  unfold zT at h
  split at h
  · rename_i e; have e := Nat.eq_of_beq_eq_true e; subst e; cases h; exact zr_31
  split at h
  · rename_i e; have e := Nat.eq_of_beq_eq_true e; subst e; cases h; exact zr_33
  split at h
  · rename_i e; have e := Nat.eq_of_beq_eq_true e; subst e; cases h; exact zr_45
  split at h
  · rename_i e; have e := Nat.eq_of_beq_eq_true e; subst e; cases h; exact zr_36
  split at h
  · rename_i e; have e := Nat.eq_of_beq_eq_true e; subst e; cases h; exact zr_5
  split at h
  · rename_i e; have e := Nat.eq_of_beq_eq_true e; subst e; cases h; exact zr_60
  split at h
  · rename_i e; have e := Nat.eq_of_beq_eq_true e; subst e; cases h; exact zr_58
  split at h
  · rename_i e; have e := Nat.eq_of_beq_eq_true e; subst e; cases h; exact zr_29
  split at h
  · rename_i e; have e := Nat.eq_of_beq_eq_true e; subst e; cases h; exact zr_3
  split at h
  · rename_i e; have e := Nat.eq_of_beq_eq_true e; subst e; cases h; exact zr_56
  split at h
  · rename_i e; have e := Nat.eq_of_beq_eq_true e; subst e; cases h; exact zr_71
  split at h
  · rename_i e; have e := Nat.eq_of_beq_eq_true e; subst e; cases h; exact zr_103
  split at h
  · rename_i e; have e := Nat.eq_of_beq_eq_true e; subst e; cases h; exact zr_27
  split at h
  · rename_i e; have e := Nat.eq_of_beq_eq_true e; subst e; cases h; exact zr_24
  split at h
  · rename_i e; have e := Nat.eq_of_beq_eq_true e; subst e; cases h; exact zr_131
  split at h
  · rename_i e; have e := Nat.eq_of_beq_eq_true e; subst e; cases h; exact zr_133
  split at h
  · rename_i e; have e := Nat.eq_of_beq_eq_true e; subst e; cases h; exact zr_135
  split at h
  · rename_i e; have e := Nat.eq_of_beq_eq_true e; subst e; cases h; exact zr_150
  split at h
  · rename_i e; have e := Nat.eq_of_beq_eq_true e; subst e; cases h; exact zr_151
  split at h
  · rename_i e; have e := Nat.eq_of_beq_eq_true e; subst e; cases h; exact zr_152
  split at h
  · rename_i e; have e := Nat.eq_of_beq_eq_true e; subst e; cases h; exact zr_153
  split at h
  · rename_i e; have e := Nat.eq_of_beq_eq_true e; subst e; cases h; exact zr_154
  split at h
  · rename_i e; have e := Nat.eq_of_beq_eq_true e; subst e; cases h; exact zr_182
  split at h
  · rename_i e; have e := Nat.eq_of_beq_eq_true e; subst e; cases h; exact zr_184
  split at h
  · rename_i e; have e := Nat.eq_of_beq_eq_true e; subst e; cases h; exact zr_186
  split at h
  · rename_i e; have e := Nat.eq_of_beq_eq_true e; subst e; cases h; exact zr_188
  split at h
  · rename_i e; have e := Nat.eq_of_beq_eq_true e; subst e; cases h; exact zr_190
  split at h
  · rename_i e; have e := Nat.eq_of_beq_eq_true e; subst e; cases h; exact zr_191
  split at h
  · rename_i e; have e := Nat.eq_of_beq_eq_true e; subst e; cases h; exact zr_194
  cases h
end Go.Proofs.Ytjdppdoakbojcaa.Abs
