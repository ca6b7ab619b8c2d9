/- The context of this seat's symbolic runs: the program, the contract of the chapter's closed examples, the table of fields. -/
import Derived.Test.YtoimfchhmocgeaaRows
import Derived.KernelRfl
import Derived.Test.YtoimfchhmocgeaaSep4
namespace Go.Proofs.Ytoimfchhmocgeaa.Abs
open Go
/-- The closed examples answer true. -/
def extS (f : FuncId) (args : List Value) : Option Value := match Nat.beq f 13 || Nat.beq f 4, args with
  | true, [] => some (.bool true)
  | _, _ => none
noncomputable def cx (B0 : Nat) (old : Nat → Option (List Value)) : Ctx := { P := Try.prog, B0, old, ext := extS }
def lk : List (Nat × Nat × Nat) → Nat → Nat → Option Nat
  | [], _, _ => none
  | (a, b, n) :: r, t, f => match Nat.beq a t with
    | true => (match Nat.beq b f with
      | true => some n
      | false => lk r t f)
    | false => lk r t f
def foT : List (Nat × Nat × Nat) := [(7, 0, 0), (7, 1, 1), (7, 2, 2), (7, 3, 3), (8, 0, 0), (8, 1, 1), (8, 2, 2), (8, 3, 3), (13, 0, 0), (13, 1, 1), (14, 0, 0), (14, 1, 1), (18, 0, 0), (19, 0, 0), (26, 0, 0), (26, 1, 1), (26, 2, 2), (26, 3, 3), (26, 4, 4), (27, 0, 0), (27, 1, 1), (27, 2, 2), (27, 3, 3), (27, 4, 4), (51, 0, 0), (51, 1, 1), (51, 2, 2), (51, 3, 3), (51, 4, 4), (51, 5, 5), (51, 6, 6), (52, 0, 0), (52, 1, 1), (52, 2, 2), (52, 3, 3), (52, 4, 4), (52, 5, 5), (52, 6, 6), (56, 0, 0), (56, 1, 1), (56, 2, 2), (56, 3, 3), (57, 0, 0), (57, 1, 1), (57, 2, 2), (57, 3, 3), (58, 0, 0), (58, 1, 1), (58, 2, 2), (58, 3, 3), (58, 4, 4), (58, 5, 5), (59, 0, 0), (59, 1, 1), (59, 2, 2), (59, 3, 3), (59, 4, 4), (59, 5, 5), (65, 0, 0), (65, 1, 1), (65, 2, 2), (66, 0, 0), (66, 1, 1), (66, 2, 2), (84, 0, 0), (84, 1, 1), (84, 2, 2), (84, 3, 3), (84, 4, 4), (85, 0, 0), (85, 1, 1), (85, 2, 2), (85, 3, 3), (85, 4, 4), (90, 0, 0), (90, 1, 1), (91, 0, 0), (91, 1, 1), (93, 0, 0), (93, 1, 1), (94, 0, 0), (94, 1, 1), (107, 0, 0), (107, 1, 2), (107, 2, 3), (107, 3, 8), (107, 4, 9), (108, 0, 0), (108, 1, 2), (108, 2, 3), (108, 3, 8), (108, 4, 9), (118, 0, 0), (118, 1, 1), (118, 2, 2), (118, 3, 3), (118, 4, 4), (118, 5, 5), (119, 0, 0), (119, 1, 1), (119, 2, 2), (119, 3, 3), (119, 4, 4), (119, 5, 5), (121, 0, 0), (121, 1, 1), (122, 0, 0), (122, 1, 1), (123, 0, 0), (123, 1, 1), (123, 2, 2), (124, 0, 0), (124, 1, 1), (124, 2, 2), (127, 0, 0), (127, 1, 1), (128, 0, 0), (128, 1, 1), (174, 0, 0), (174, 1, 1), (174, 2, 2), (174, 3, 3), (175, 0, 0), (175, 1, 1), (175, 2, 2), (175, 3, 3), (186, 0, 0), (186, 1, 1), (186, 2, 2), (186, 3, 3), (186, 4, 4), (186, 5, 5), (186, 6, 6), (186, 7, 7), (186, 8, 8), (186, 9, 9), (186, 10, 10), (187, 0, 0), (187, 1, 1), (187, 2, 2), (187, 3, 3), (187, 4, 4), (187, 5, 5), (187, 6, 6), (187, 7, 7), (187, 8, 8), (187, 9, 9), (187, 10, 10)]
theorem lk_mem : ∀ (l : List (Nat × Nat × Nat)) (t f n : Nat), lk l t f = some n → (t, f, n) ∈ l
  | [], _, _, _, h => by cases h
  | (a, b, m) :: r, t, f, n, h => by
    unfold lk at h
    split at h
    · rename_i e
      have e := Nat.eq_of_beq_eq_true e
      subst e
      split at h
      · rename_i e2
        have e2 := Nat.eq_of_beq_eq_true e2
        subst e2
        cases h
        exact List.Mem.head _
      · exact List.Mem.tail _ (lk_mem r _ _ _ h)
    · exact List.Mem.tail _ (lk_mem r _ _ _ h)
theorem foT_ok (B0 : Nat) (old : Nat → Option (List Value)) : foT.all (fun e => match fldOff (cx B0 old) e.1 e.2.1 with | some n => Nat.beq n e.2.2 | none => false) = true := by kernel_rfl
theorem ft {B0 : Nat} {old : Nat → Option (List Value)} {t f n : Nat} (h : lk foT t f = some n) : fldOff (cx B0 old) t f = some n := by
  have h1 := List.all_eq_true.1 (foT_ok B0 old) _ (lk_mem _ _ _ _ h)
  simp only at h1
  split at h1
  · rename_i m e; rw [e, Nat.eq_of_beq_eq_true h1]
  · cases h1
def lk2 : List (Nat × Nat) → Nat → Option Nat
  | [], _ => none
  | (a, n) :: r, t => match Nat.beq a t with
    | true => some n
    | false => lk2 r t
theorem lk2_mem : ∀ (l : List (Nat × Nat)) (t n : Nat), lk2 l t = some n → (t, n) ∈ l
  | [], _, _, h => by cases h
  | (a, m) :: r, t, n, h => by
    unfold lk2 at h
    split at h
    · rename_i e
      have e := Nat.eq_of_beq_eq_true e
      subst e
      cases h
      exact List.Mem.head _
    · exact List.Mem.tail _ (lk2_mem r _ _ h)
def szT : List (Nat × Nat) := [(0, 1), (1, 1), (2, 1), (3, 1), (4, 1), (5, 1), (6, 1), (7, 4), (8, 4), (9, 1), (10, 1), (11, 1), (12, 1), (13, 2), (14, 2), (15, 1), (16, 1), (17, 1), (18, 1), (19, 1), (20, 1), (21, 1), (22, 1), (23, 1), (24, 1), (25, 1), (26, 5), (27, 5), (28, 1), (29, 1), (30, 1), (31, 1), (32, 1), (33, 1), (34, 1), (35, 1), (36, 1), (37, 1), (38, 1), (39, 1), (40, 1), (41, 1), (42, 1), (43, 1), (44, 1), (45, 1), (46, 1), (47, 1), (48, 1), (49, 1), (50, 1), (51, 7), (52, 7), (53, 1), (54, 1), (55, 1), (56, 4), (57, 4), (58, 6), (59, 6), (60, 1), (61, 1), (62, 1), (63, 1), (64, 1), (65, 3), (66, 3), (67, 1), (68, 1), (69, 1), (70, 1), (71, 1), (72, 1), (73, 1), (74, 1), (75, 1), (76, 1), (77, 1), (78, 1), (79, 1), (80, 1), (81, 1), (82, 1), (83, 1), (84, 5), (85, 5), (86, 1), (87, 1), (88, 1), (89, 1), (90, 2), (91, 2), (92, 1), (93, 2), (94, 2), (95, 1), (96, 1), (97, 1), (98, 1), (99, 1), (100, 1), (101, 1), (102, 1), (103, 1), (104, 1), (105, 1), (106, 1), (107, 10), (108, 10), (109, 1), (110, 1), (111, 1), (112, 1), (113, 1), (114, 1), (115, 1), (116, 1), (117, 1), (118, 6), (119, 6), (120, 1), (121, 2), (122, 2), (123, 3), (124, 3), (125, 1), (126, 1), (127, 2), (128, 2), (129, 1), (130, 1), (131, 1), (132, 1), (133, 1), (134, 1), (135, 1), (136, 1), (137, 1), (138, 1), (139, 1), (140, 1), (141, 1), (142, 1), (143, 1), (144, 1), (145, 1), (146, 1), (147, 1), (148, 1), (149, 1), (150, 1), (151, 1), (152, 1), (153, 1), (154, 1), (155, 1), (156, 1), (157, 1), (158, 1), (159, 1), (160, 1), (161, 1), (162, 1), (163, 1), (164, 1), (165, 1), (166, 1), (167, 1), (168, 1), (169, 1), (170, 1), (171, 1), (172, 1), (173, 1), (174, 4), (175, 4), (176, 0), (177, 0), (178, 0), (179, 1), (180, 1), (181, 1), (182, 1), (183, 1), (184, 1), (185, 1), (186, 11), (187, 11), (188, 1)]
theorem szT_ok (B0 : Nat) (old : Nat → Option (List Value)) : szT.all (fun e => match sizeAt (cx B0 old) e.1 with | some n => Nat.beq n e.2 | none => false) = true := by kernel_rfl
theorem sz {B0 : Nat} {old : Nat → Option (List Value)} {t n : Nat} (h : lk2 szT t = some n) : sizeAt (cx B0 old) t = some n := by
  have h1 := List.all_eq_true.1 (szT_ok B0 old) _ (lk2_mem _ _ _ h)
  simp only at h1
  split at h1
  · rename_i m e; rw [e, Nat.eq_of_beq_eq_true h1]
  · cases h1
def esT : List (Nat × Nat) := [(38, 5), (44, 6), (49, 7), (53, 4), (62, 1), (63, 3), (69, 1), (86, 1), (97, 2), (105, 1), (116, 3), (117, 2)]
theorem esT_ok (B0 : Nat) (old : Nat → Option (List Value)) : esT.all (fun e => match elSize (cx B0 old) e.1 with | some n => Nat.beq n e.2 | none => false) = true := by kernel_rfl
theorem es {B0 : Nat} {old : Nat → Option (List Value)} {t n : Nat} (h : lk2 esT t = some n) : elSize (cx B0 old) t = some n := by
  have h1 := List.all_eq_true.1 (esT_ok B0 old) _ (lk2_mem _ _ _ h)
  simp only at h1
  split at h1
  · rename_i m e; rw [e, Nat.eq_of_beq_eq_true h1]
  · cases h1
def arT : List (Nat × Nat × Nat) := [(176, 0, 1)]
def lkA : List (Nat × Nat × Nat) → Nat → Option (Nat × Nat)
  | [], _ => none
  | (a, n) :: r, t => match Nat.beq a t with
    | true => some n
    | false => lkA r t
theorem lkA_mem : ∀ (l : List (Nat × Nat × Nat)) (t : Nat) (n : Nat × Nat), lkA l t = some n → (t, n) ∈ l
  | [], _, _, h => by cases h
  | (a, m) :: r, t, n, h => by
    unfold lkA at h
    split at h
    · rename_i e
      have e := Nat.eq_of_beq_eq_true e
      subst e
      cases h
      exact List.Mem.head _
    · exact List.Mem.tail _ (lkA_mem r _ _ h)
theorem arT_ok (B0 : Nat) (old : Nat → Option (List Value)) : arT.all (fun e => match arSize (cx B0 old) e.1 with | some n => Nat.beq n.1 e.2.1 && Nat.beq n.2 e.2.2 | none => false) = true := by kernel_rfl
theorem ar {B0 : Nat} {old : Nat → Option (List Value)} {t : Nat} {n : Nat × Nat} (h : lkA arT t = some n) : arSize (cx B0 old) t = some n := by
  have h1 := List.all_eq_true.1 (arT_ok B0 old) _ (lkA_mem _ _ _ h)
  simp only at h1
  split at h1
  · rename_i m e
    rw [e]
    clear e h
    simp only [Bool.and_eq_true] at h1
    have a1 := Nat.eq_of_beq_eq_true h1.1
    have a2 := Nat.eq_of_beq_eq_true h1.2
    clear h1
    obtain ⟨m1, m2⟩ := m
    obtain ⟨n1, n2⟩ := n
    simp only at a1 a2
    subst a1
    subst a2
    rfl
  · cases h1
theorem eqt_7 {B0 : Nat} {old : Nat → Option (List Value)} : EqT (cx B0 old) 7 [2, 3, 4, 6] := ⟨by kernel_rfl, by kernel_rfl, by kernel_rfl⟩
theorem eqt_8 {B0 : Nat} {old : Nat → Option (List Value)} : EqT (cx B0 old) 8 [2, 3, 4, 6] := ⟨by kernel_rfl, by kernel_rfl, by kernel_rfl⟩
theorem eqt_26 {B0 : Nat} {old : Nat → Option (List Value)} : EqT (cx B0 old) 26 [3, 25, 22, 23, 4] := ⟨by kernel_rfl, by kernel_rfl, by kernel_rfl⟩
theorem eqt_27 {B0 : Nat} {old : Nat → Option (List Value)} : EqT (cx B0 old) 27 [3, 25, 22, 23, 4] := ⟨by kernel_rfl, by kernel_rfl, by kernel_rfl⟩
theorem eqt_56 {B0 : Nat} {old : Nat → Option (List Value)} : EqT (cx B0 old) 56 [3, 25, 22, 4] := ⟨by kernel_rfl, by kernel_rfl, by kernel_rfl⟩
theorem eqt_57 {B0 : Nat} {old : Nat → Option (List Value)} : EqT (cx B0 old) 57 [3, 25, 22, 4] := ⟨by kernel_rfl, by kernel_rfl, by kernel_rfl⟩
theorem eqt_58 {B0 : Nat} {old : Nat → Option (List Value)} : EqT (cx B0 old) 58 [3, 3, 25, 23, 4, 3] := ⟨by kernel_rfl, by kernel_rfl, by kernel_rfl⟩
theorem eqt_59 {B0 : Nat} {old : Nat → Option (List Value)} : EqT (cx B0 old) 59 [3, 3, 25, 23, 4, 3] := ⟨by kernel_rfl, by kernel_rfl, by kernel_rfl⟩
theorem eqt_90 {B0 : Nat} {old : Nat → Option (List Value)} : EqT (cx B0 old) 90 [3, 25] := ⟨by kernel_rfl, by kernel_rfl, by kernel_rfl⟩
theorem eqt_91 {B0 : Nat} {old : Nat → Option (List Value)} : EqT (cx B0 old) 91 [3, 25] := ⟨by kernel_rfl, by kernel_rfl, by kernel_rfl⟩
theorem eqt_93 {B0 : Nat} {old : Nat → Option (List Value)} : EqT (cx B0 old) 93 [22, 4] := ⟨by kernel_rfl, by kernel_rfl, by kernel_rfl⟩
theorem eqt_94 {B0 : Nat} {old : Nat → Option (List Value)} : EqT (cx B0 old) 94 [22, 4] := ⟨by kernel_rfl, by kernel_rfl, by kernel_rfl⟩
theorem eqt_121 {B0 : Nat} {old : Nat → Option (List Value)} : EqT (cx B0 old) 121 [3, 25] := ⟨by kernel_rfl, by kernel_rfl, by kernel_rfl⟩
theorem eqt_122 {B0 : Nat} {old : Nat → Option (List Value)} : EqT (cx B0 old) 122 [3, 25] := ⟨by kernel_rfl, by kernel_rfl, by kernel_rfl⟩
theorem eqt_123 {B0 : Nat} {old : Nat → Option (List Value)} : EqT (cx B0 old) 123 [3, 25, 3] := ⟨by kernel_rfl, by kernel_rfl, by kernel_rfl⟩
theorem eqt_124 {B0 : Nat} {old : Nat → Option (List Value)} : EqT (cx B0 old) 124 [3, 25, 3] := ⟨by kernel_rfl, by kernel_rfl, by kernel_rfl⟩
def leT (t : Nat) : Option (List Nat) := match Nat.beq t 7 with | true => some [2, 3, 4, 6] | false => match Nat.beq t 8 with | true => some [2, 3, 4, 6] | false => match Nat.beq t 26 with | true => some [3, 25, 22, 23, 4] | false => match Nat.beq t 27 with | true => some [3, 25, 22, 23, 4] | false => match Nat.beq t 56 with | true => some [3, 25, 22, 4] | false => match Nat.beq t 57 with | true => some [3, 25, 22, 4] | false => match Nat.beq t 58 with | true => some [3, 3, 25, 23, 4, 3] | false => match Nat.beq t 59 with | true => some [3, 3, 25, 23, 4, 3] | false => match Nat.beq t 90 with | true => some [3, 25] | false => match Nat.beq t 91 with | true => some [3, 25] | false => match Nat.beq t 93 with | true => some [22, 4] | false => match Nat.beq t 94 with | true => some [22, 4] | false => match Nat.beq t 121 with | true => some [3, 25] | false => match Nat.beq t 122 with | true => some [3, 25] | false => match Nat.beq t 123 with | true => some [3, 25, 3] | false => match Nat.beq t 124 with | true => some [3, 25, 3] | false => none
theorem eqt {B0 : Nat} {old : Nat → Option (List Value)} {t : Nat} {r : List Nat} (h : leT t = some r) : EqT (cx B0 old) t r := by
  unfold leT at h
  split at h
  · rename_i e; have e := Nat.eq_of_beq_eq_true e; subst e; cases h; exact eqt_7
  split at h
  · rename_i e; have e := Nat.eq_of_beq_eq_true e; subst e; cases h; exact eqt_8
  split at h
  · rename_i e; have e := Nat.eq_of_beq_eq_true e; subst e; cases h; exact eqt_26
  split at h
  · rename_i e; have e := Nat.eq_of_beq_eq_true e; subst e; cases h; exact eqt_27
  split at h
  · rename_i e; have e := Nat.eq_of_beq_eq_true e; subst e; cases h; exact eqt_56
  split at h
  · rename_i e; have e := Nat.eq_of_beq_eq_true e; subst e; cases h; exact eqt_57
  split at h
  · rename_i e; have e := Nat.eq_of_beq_eq_true e; subst e; cases h; exact eqt_58
  split at h
  · rename_i e; have e := Nat.eq_of_beq_eq_true e; subst e; cases h; exact eqt_59
  split at h
  · rename_i e; have e := Nat.eq_of_beq_eq_true e; subst e; cases h; exact eqt_90
  split at h
  · rename_i e; have e := Nat.eq_of_beq_eq_true e; subst e; cases h; exact eqt_91
  split at h
  · rename_i e; have e := Nat.eq_of_beq_eq_true e; subst e; cases h; exact eqt_93
  split at h
  · rename_i e; have e := Nat.eq_of_beq_eq_true e; subst e; cases h; exact eqt_94
  split at h
  · rename_i e; have e := Nat.eq_of_beq_eq_true e; subst e; cases h; exact eqt_121
  split at h
  · rename_i e; have e := Nat.eq_of_beq_eq_true e; subst e; cases h; exact eqt_122
  split at h
  · rename_i e; have e := Nat.eq_of_beq_eq_true e; subst e; cases h; exact eqt_123
  split at h
  · rename_i e; have e := Nat.eq_of_beq_eq_true e; subst e; cases h; exact eqt_124
  cases h
def apT : List (Nat × Nat × Nat) := [(38, 5, 32), (44, 6, 40), (49, 7, 88), (53, 4, 24), (62, 1, 8), (63, 3, 16), (69, 1, 1), (86, 1, 8), (97, 2, 16), (105, 1, 8), (116, 3, 24), (117, 2, 16)]
theorem apT_ok (B0 : Nat) (old : Nat → Option (List Value)) : apT.all (fun e => match appT (cx B0 old) e.1 e.1 with | some n => Nat.beq n.1 e.2.1 && Nat.beq n.2 e.2.2 | none => false) = true := by kernel_rfl
theorem ap {B0 : Nat} {old : Nat → Option (List Value)} {t : Nat} {n : Nat × Nat} (h : lkA apT t = some n) : appT (cx B0 old) t t = some n := by
  have h1 := List.all_eq_true.1 (apT_ok B0 old) _ (lkA_mem _ _ _ h)
  simp only at h1
  split at h1
  · rename_i m e
    rw [e]
    clear e h
    simp only [Bool.and_eq_true] at h1
    have a1 := Nat.eq_of_beq_eq_true h1.1
    have a2 := Nat.eq_of_beq_eq_true h1.2
    clear h1
    obtain ⟨m1, m2⟩ := m
    obtain ⟨n1, n2⟩ := n
    simp only at a1 a2
    subst a1
    subst a2
    rfl
  · cases h1
theorem zr_27 {B0 : Nat} {old : Nat → Option (List Value)} : zeroL (cx B0 old) 27 = some ([.int .i64 0, .int .u64 0, .int .u32 0, .int .u32 0, .bool false], 5) := by kernel_rfl
theorem zr_52 {B0 : Nat} {old : Nat → Option (List Value)} : zeroL (cx B0 old) 52 = some ([.int .i64 0, .int .i64 0, .int .u32 0, .slice none 0 0, .slice none 0 0, .int .i64 0, .int .u64 0], 7) := by kernel_rfl
theorem zr_59 {B0 : Nat} {old : Nat → Option (List Value)} : zeroL (cx B0 old) 59 = some ([.int .i64 0, .int .i64 0, .int .u64 0, .int .u32 0, .bool false, .int .i64 0], 6) := by kernel_rfl
theorem zr_3 {B0 : Nat} {old : Nat → Option (List Value)} : zeroL (cx B0 old) 3 = some ([.int .i64 0], 1) := by kernel_rfl
theorem zr_85 {B0 : Nat} {old : Nat → Option (List Value)} : zeroL (cx B0 old) 85 = some ([.int .i64 0, .int .i64 0, .int .i64 0, .map none, .map none], 5) := by kernel_rfl
theorem zr_33 {B0 : Nat} {old : Nat → Option (List Value)} : zeroL (cx B0 old) 33 = some ([.pointer none], 1) := by kernel_rfl
theorem zr_91 {B0 : Nat} {old : Nat → Option (List Value)} : zeroL (cx B0 old) 91 = some ([.int .i64 0, .int .u64 0], 2) := by kernel_rfl
theorem zr_57 {B0 : Nat} {old : Nat → Option (List Value)} : zeroL (cx B0 old) 57 = some ([.int .i64 0, .int .u64 0, .int .u32 0, .bool false], 4) := by kernel_rfl
theorem zr_108 {B0 : Nat} {old : Nat → Option (List Value)} : zeroL (cx B0 old) 108 = some ([.int .i64 0, .int .u64 0, .pointer none, .int .i64 0, .int .u64 0, .int .u32 0, .int .u32 0, .bool false, .int .u32 0, .int .i64 0], 10) := by kernel_rfl
theorem zr_53 {B0 : Nat} {old : Nat → Option (List Value)} : zeroL (cx B0 old) 53 = some ([.slice none 0 0], 1) := by kernel_rfl
theorem zr_66 {B0 : Nat} {old : Nat → Option (List Value)} : zeroL (cx B0 old) 66 = some ([.pointer none, .bool false, .bool false], 3) := by kernel_rfl
theorem zr_119 {B0 : Nat} {old : Nat → Option (List Value)} : zeroL (cx B0 old) 119 = some ([.int .i64 0, .int .i64 0, .int .i64 0, .slice none 0 0, .slice none 0 0, .slice none 0 0], 6) := by kernel_rfl
theorem zr_122 {B0 : Nat} {old : Nat → Option (List Value)} : zeroL (cx B0 old) 122 = some ([.int .i64 0, .int .u64 0], 2) := by kernel_rfl
theorem zr_124 {B0 : Nat} {old : Nat → Option (List Value)} : zeroL (cx B0 old) 124 = some ([.int .i64 0, .int .u64 0, .int .i64 0], 3) := by kernel_rfl
theorem zr_94 {B0 : Nat} {old : Nat → Option (List Value)} : zeroL (cx B0 old) 94 = some ([.int .u32 0, .bool false], 2) := by kernel_rfl
theorem zr_128 {B0 : Nat} {old : Nat → Option (List Value)} : zeroL (cx B0 old) 128 = some ([.slice none 0 0, .bool false], 2) := by kernel_rfl
theorem zr_110 {B0 : Nat} {old : Nat → Option (List Value)} : zeroL (cx B0 old) 110 = some ([.nilFunc], 1) := by kernel_rfl
theorem zr_164 {B0 : Nat} {old : Nat → Option (List Value)} : zeroL (cx B0 old) 164 = some ([.int .u64 0], 1) := by kernel_rfl
def zT (t : Nat) : Option (List Value × Nat) := match Nat.beq t 27 with | true => some ([.int .i64 0, .int .u64 0, .int .u32 0, .int .u32 0, .bool false], 5) | false => match Nat.beq t 52 with | true => some ([.int .i64 0, .int .i64 0, .int .u32 0, .slice none 0 0, .slice none 0 0, .int .i64 0, .int .u64 0], 7) | false => match Nat.beq t 59 with | true => some ([.int .i64 0, .int .i64 0, .int .u64 0, .int .u32 0, .bool false, .int .i64 0], 6) | false => match Nat.beq t 3 with | true => some ([.int .i64 0], 1) | false => match Nat.beq t 85 with | true => some ([.int .i64 0, .int .i64 0, .int .i64 0, .map none, .map none], 5) | false => match Nat.beq t 33 with | true => some ([.pointer none], 1) | false => match Nat.beq t 91 with | true => some ([.int .i64 0, .int .u64 0], 2) | false => match Nat.beq t 57 with | true => some ([.int .i64 0, .int .u64 0, .int .u32 0, .bool false], 4) | false => match Nat.beq t 108 with | true => some ([.int .i64 0, .int .u64 0, .pointer none, .int .i64 0, .int .u64 0, .int .u32 0, .int .u32 0, .bool false, .int .u32 0, .int .i64 0], 10) | false => match Nat.beq t 53 with | true => some ([.slice none 0 0], 1) | false => match Nat.beq t 66 with | true => some ([.pointer none, .bool false, .bool false], 3) | false => match Nat.beq t 119 with | true => some ([.int .i64 0, .int .i64 0, .int .i64 0, .slice none 0 0, .slice none 0 0, .slice none 0 0], 6) | false => match Nat.beq t 122 with | true => some ([.int .i64 0, .int .u64 0], 2) | false => match Nat.beq t 124 with | true => some ([.int .i64 0, .int .u64 0, .int .i64 0], 3) | false => match Nat.beq t 94 with | true => some ([.int .u32 0, .bool false], 2) | false => match Nat.beq t 128 with | true => some ([.slice none 0 0, .bool false], 2) | false => match Nat.beq t 110 with | true => some ([.nilFunc], 1) | false => match Nat.beq t 164 with | true => some ([.int .u64 0], 1) | false => none
theorem zr {B0 : Nat} {old : Nat → Option (List Value)} {t : Nat} {r : List Value × Nat} (h : zT t = some r) : zeroL (cx B0 old) t = some r := by
  unfold zT at h
  split at h
  · rename_i e; have e := Nat.eq_of_beq_eq_true e; subst e; cases h; exact zr_27
  split at h
  · rename_i e; have e := Nat.eq_of_beq_eq_true e; subst e; cases h; exact zr_52
  split at h
  · rename_i e; have e := Nat.eq_of_beq_eq_true e; subst e; cases h; exact zr_59
  split at h
  · rename_i e; have e := Nat.eq_of_beq_eq_true e; subst e; cases h; exact zr_3
  split at h
  · rename_i e; have e := Nat.eq_of_beq_eq_true e; subst e; cases h; exact zr_85
  split at h
  · rename_i e; have e := Nat.eq_of_beq_eq_true e; subst e; cases h; exact zr_33
  split at h
  · rename_i e; have e := Nat.eq_of_beq_eq_true e; subst e; cases h; exact zr_91
  split at h
  · rename_i e; have e := Nat.eq_of_beq_eq_true e; subst e; cases h; exact zr_57
  split at h
  · rename_i e; have e := Nat.eq_of_beq_eq_true e; subst e; cases h; exact zr_108
  split at h
  · rename_i e; have e := Nat.eq_of_beq_eq_true e; subst e; cases h; exact zr_53
  split at h
  · rename_i e; have e := Nat.eq_of_beq_eq_true e; subst e; cases h; exact zr_66
  split at h
  · rename_i e; have e := Nat.eq_of_beq_eq_true e; subst e; cases h; exact zr_119
  split at h
  · rename_i e; have e := Nat.eq_of_beq_eq_true e; subst e; cases h; exact zr_122
  split at h
  · rename_i e; have e := Nat.eq_of_beq_eq_true e; subst e; cases h; exact zr_124
  split at h
  · rename_i e; have e := Nat.eq_of_beq_eq_true e; subst e; cases h; exact zr_94
  split at h
  · rename_i e; have e := Nat.eq_of_beq_eq_true e; subst e; cases h; exact zr_128
  split at h
  · rename_i e; have e := Nat.eq_of_beq_eq_true e; subst e; cases h; exact zr_110
  split at h
  · rename_i e; have e := Nat.eq_of_beq_eq_true e; subst e; cases h; exact zr_164
  cases h
end Go.Proofs.Ytoimfchhmocgeaa.Abs
