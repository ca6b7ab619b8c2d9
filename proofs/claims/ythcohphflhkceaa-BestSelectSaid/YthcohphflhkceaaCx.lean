/- The context of this seat's symbolic runs: the program, the contract of the chapter's closed examples, the table of fields. -/
import Derived.Test.YthcohphflhkceaaRows
import Derived.KernelRfl
import Derived.Test.YthcohphflhkceaaSep4
namespace Go.Proofs.Ythcohphflhkceaa.Abs
open Go
/-- The closed examples answer true. -/
def extS (f : FuncId) (args : List Value) : Option Value := match Nat.beq f 9, args with
  | true, [] => some (.bool true)
  | _, _ => none
noncomputable def cx (B0 : Nat) (old : Nat → Option (List Value)) : Ctx := { P := Try.prog, B0, old, ext := extS }
def lk : List (Nat × Nat × Nat) → Nat → Nat → Option Nat
  | [], _, _ => none
  | (a, b, n) :: r, t, f => match Nat.beq a t with
    | true => (match Nat.beq b f with
      | true => some n
      | false => lk r t f)
    | false => lk r t f
def foT : List (Nat × Nat × Nat) := [(7, 0, 0), (7, 1, 1), (7, 2, 2), (7, 3, 3), (8, 0, 0), (8, 1, 1), (8, 2, 2), (8, 3, 3), (13, 0, 0), (13, 1, 1), (14, 0, 0), (14, 1, 1), (18, 0, 0), (19, 0, 0), (28, 0, 0), (28, 1, 1), (29, 0, 0), (29, 1, 1), (30, 0, 0), (30, 1, 1), (30, 2, 2), (30, 3, 12), (30, 4, 13), (30, 5, 14), (30, 6, 15), (30, 7, 16), (30, 8, 18), (30, 9, 19), (30, 10, 20), (31, 0, 0), (31, 1, 1), (31, 2, 2), (31, 3, 12), (31, 4, 13), (31, 5, 14), (31, 6, 15), (31, 7, 16), (31, 8, 18), (31, 9, 19), (31, 10, 20), (35, 0, 0), (35, 1, 1), (35, 2, 2), (35, 3, 3), (36, 0, 0), (36, 1, 1), (36, 2, 2), (36, 3, 3), (37, 0, 0), (37, 1, 1), (37, 2, 2), (37, 3, 3), (37, 4, 4), (37, 5, 5), (37, 6, 6), (37, 7, 7), (37, 8, 8), (37, 9, 9), (37, 10, 10), (37, 11, 11), (38, 0, 0), (38, 1, 1), (38, 2, 2), (38, 3, 3), (38, 4, 4), (38, 5, 5), (38, 6, 6), (38, 7, 7), (38, 8, 8), (38, 9, 9), (38, 10, 10), (38, 11, 11), (39, 0, 0), (39, 1, 21), (39, 2, 36), (39, 3, 37), (40, 0, 0), (40, 1, 21), (40, 2, 36), (40, 3, 37), (48, 0, 0), (48, 1, 1), (49, 0, 0), (49, 1, 1), (119, 0, 0), (119, 1, 1), (119, 2, 2), (119, 3, 3), (120, 0, 0), (120, 1, 1), (120, 2, 2), (120, 3, 3), (131, 0, 0), (131, 1, 1), (131, 2, 2), (131, 3, 3), (131, 4, 4), (131, 5, 5), (131, 6, 6), (131, 7, 7), (131, 8, 8), (131, 9, 9), (131, 10, 10), (132, 0, 0), (132, 1, 1), (132, 2, 2), (132, 3, 3), (132, 4, 4), (132, 5, 5), (132, 6, 6), (132, 7, 7), (132, 8, 8), (132, 9, 9), (132, 10, 10)]
theorem lk_mem : ∀ (l : List (Nat × Nat × Nat)) (t f n : Nat), lk l t f = some n → (t, f, n) ∈ l
  | [], _, _, _, h => by cases h
  | (a, b, m) :: r, t, f, n, h => by
    unfold lk at h
    split at h
    · rename_i e
      have e := Nat.eq_of_beq_eq_true e
      subst e
      split at h
      · rename_i e2
        have e2 := Nat.eq_of_beq_eq_true e2
        subst e2
        cases h
        exact List.Mem.head _
      · exact List.Mem.tail _ (lk_mem r _ _ _ h)
    · exact List.Mem.tail _ (lk_mem r _ _ _ h)
theorem foT_ok (B0 : Nat) (old : Nat → Option (List Value)) : foT.all (fun e => match fldOff (cx B0 old) e.1 e.2.1 with | some n => Nat.beq n e.2.2 | none => false) = true := by kernel_rfl
theorem ft {B0 : Nat} {old : Nat → Option (List Value)} {t f n : Nat} (h : lk foT t f = some n) : fldOff (cx B0 old) t f = some n := by
  have h1 := List.all_eq_true.1 (foT_ok B0 old) _ (lk_mem _ _ _ _ h)
  simp only at h1
  split at h1
  · rename_i m e; rw [e, Nat.eq_of_beq_eq_true h1]
  · cases h1
def lk2 : List (Nat × Nat) → Nat → Option Nat
  | [], _ => none
  | (a, n) :: r, t => match Nat.beq a t with
    | true => some n
    | false => lk2 r t
theorem lk2_mem : ∀ (l : List (Nat × Nat)) (t n : Nat), lk2 l t = some n → (t, n) ∈ l
  | [], _, _, h => by cases h
  | (a, m) :: r, t, n, h => by
    unfold lk2 at h
    split at h
    · rename_i e
      have e := Nat.eq_of_beq_eq_true e
      subst e
      cases h
      exact List.Mem.head _
    · exact List.Mem.tail _ (lk2_mem r _ _ h)
def szT : List (Nat × Nat) := [(0, 1), (1, 1), (2, 1), (3, 1), (4, 1), (5, 1), (6, 1), (7, 4), (8, 4), (9, 1), (10, 1), (11, 1), (12, 1), (13, 2), (14, 2), (15, 1), (16, 1), (17, 1), (18, 1), (19, 1), (20, 1), (21, 1), (22, 1), (23, 10), (24, 10), (25, 1), (26, 1), (27, 1), (28, 2), (29, 2), (30, 21), (31, 21), (32, 1), (33, 1), (34, 1), (35, 4), (36, 4), (37, 15), (38, 15), (39, 38), (40, 38), (41, 1), (42, 1), (43, 1), (44, 1), (45, 1), (46, 1), (47, 1), (48, 2), (49, 2), (50, 1), (51, 1), (52, 1), (53, 1), (54, 1), (55, 1), (56, 1), (57, 1), (58, 1), (59, 1), (60, 1), (61, 1), (62, 1), (63, 1), (64, 1), (65, 1), (66, 1), (67, 1), (68, 10), (69, 10), (70, 1), (71, 1), (72, 1), (73, 1), (74, 1), (75, 1), (76, 1), (77, 1), (78, 1), (79, 1), (80, 1), (81, 1), (82, 1), (83, 1), (84, 1), (85, 1), (86, 1), (87, 1), (88, 1), (89, 1), (90, 1), (91, 1), (92, 1), (93, 8), (94, 8), (95, 1), (96, 1), (97, 1), (98, 1), (99, 1), (100, 1), (101, 1), (102, 1), (103, 1), (104, 1), (105, 1), (106, 1), (107, 1), (108, 1), (109, 1), (110, 1), (111, 1), (112, 1), (113, 1), (114, 1), (115, 1), (116, 1), (117, 1), (118, 1), (119, 4), (120, 4), (121, 0), (122, 0), (123, 0), (124, 1), (125, 1), (126, 1), (127, 1), (128, 1), (129, 1), (130, 1), (131, 11), (132, 11), (133, 1)]
theorem szT_ok (B0 : Nat) (old : Nat → Option (List Value)) : szT.all (fun e => match sizeAt (cx B0 old) e.1 with | some n => Nat.beq n e.2 | none => false) = true := by kernel_rfl
theorem sz {B0 : Nat} {old : Nat → Option (List Value)} {t n : Nat} (h : lk2 szT t = some n) : sizeAt (cx B0 old) t = some n := by
  have h1 := List.all_eq_true.1 (szT_ok B0 old) _ (lk2_mem _ _ _ h)
  simp only at h1
  split at h1
  · rename_i m e; rw [e, Nat.eq_of_beq_eq_true h1]
  · cases h1
def esT : List (Nat × Nat) := [(32, 1), (33, 1), (34, 8), (41, 2), (44, 38), (80, 1)]
theorem esT_ok (B0 : Nat) (old : Nat → Option (List Value)) : esT.all (fun e => match elSize (cx B0 old) e.1 with | some n => Nat.beq n e.2 | none => false) = true := by kernel_rfl
theorem es {B0 : Nat} {old : Nat → Option (List Value)} {t n : Nat} (h : lk2 esT t = some n) : elSize (cx B0 old) t = some n := by
  have h1 := List.all_eq_true.1 (esT_ok B0 old) _ (lk2_mem _ _ _ h)
  simp only at h1
  split at h1
  · rename_i m e; rw [e, Nat.eq_of_beq_eq_true h1]
  · cases h1
def arT : List (Nat × Nat × Nat) := [(23, 10, 1), (24, 10, 1), (68, 10, 1), (69, 10, 1), (93, 8, 1), (94, 8, 1), (121, 0, 1)]
def lkA : List (Nat × Nat × Nat) → Nat → Option (Nat × Nat)
  | [], _ => none
  | (a, n) :: r, t => match Nat.beq a t with
    | true => some n
    | false => lkA r t
theorem lkA_mem : ∀ (l : List (Nat × Nat × Nat)) (t : Nat) (n : Nat × Nat), lkA l t = some n → (t, n) ∈ l
  | [], _, _, h => by cases h
  | (a, m) :: r, t, n, h => by
    unfold lkA at h
    split at h
    · rename_i e
      have e := Nat.eq_of_beq_eq_true e
      subst e
      cases h
      exact List.Mem.head _
    · exact List.Mem.tail _ (lkA_mem r _ _ h)
theorem arT_ok (B0 : Nat) (old : Nat → Option (List Value)) : arT.all (fun e => match arSize (cx B0 old) e.1 with | some n => Nat.beq n.1 e.2.1 && Nat.beq n.2 e.2.2 | none => false) = true := by kernel_rfl
theorem ar {B0 : Nat} {old : Nat → Option (List Value)} {t : Nat} {n : Nat × Nat} (h : lkA arT t = some n) : arSize (cx B0 old) t = some n := by
  have h1 := List.all_eq_true.1 (arT_ok B0 old) _ (lkA_mem _ _ _ h)
  simp only at h1
  split at h1
  · rename_i m e
    rw [e]
    clear e h
    simp only [Bool.and_eq_true] at h1
    have a1 := Nat.eq_of_beq_eq_true h1.1
    have a2 := Nat.eq_of_beq_eq_true h1.2
    clear h1
    obtain ⟨m1, m2⟩ := m
    obtain ⟨n1, n2⟩ := n
    simp only at a1 a2
    subst a1
    subst a2
    rfl
  · cases h1
theorem eqt_7 {B0 : Nat} {old : Nat → Option (List Value)} : EqT (cx B0 old) 7 [2, 3, 4, 6] := ⟨by kernel_rfl, by kernel_rfl, by kernel_rfl⟩
theorem eqt_8 {B0 : Nat} {old : Nat → Option (List Value)} : EqT (cx B0 old) 8 [2, 3, 4, 6] := ⟨by kernel_rfl, by kernel_rfl, by kernel_rfl⟩
theorem eqt_23 {B0 : Nat} {old : Nat → Option (List Value)} : EqT (cx B0 old) 23 [5, 5, 5, 5, 5, 5, 5, 5, 5, 5] := ⟨by kernel_rfl, by kernel_rfl, by kernel_rfl⟩
theorem eqt_24 {B0 : Nat} {old : Nat → Option (List Value)} : EqT (cx B0 old) 24 [5, 5, 5, 5, 5, 5, 5, 5, 5, 5] := ⟨by kernel_rfl, by kernel_rfl, by kernel_rfl⟩
theorem eqt_28 {B0 : Nat} {old : Nat → Option (List Value)} : EqT (cx B0 old) 28 [27, 3] := ⟨by kernel_rfl, by kernel_rfl, by kernel_rfl⟩
theorem eqt_29 {B0 : Nat} {old : Nat → Option (List Value)} : EqT (cx B0 old) 29 [27, 3] := ⟨by kernel_rfl, by kernel_rfl, by kernel_rfl⟩
theorem eqt_30 {B0 : Nat} {old : Nat → Option (List Value)} : EqT (cx B0 old) 30 [3, 22, 5, 5, 5, 5, 5, 5, 5, 5, 5, 5, 25, 26, 27, 4, 27, 3, 27, 25, 25] := ⟨by kernel_rfl, by kernel_rfl, by kernel_rfl⟩
theorem eqt_31 {B0 : Nat} {old : Nat → Option (List Value)} : EqT (cx B0 old) 31 [3, 22, 5, 5, 5, 5, 5, 5, 5, 5, 5, 5, 25, 26, 27, 4, 27, 3, 27, 25, 25] := ⟨by kernel_rfl, by kernel_rfl, by kernel_rfl⟩
theorem eqt_35 {B0 : Nat} {old : Nat → Option (List Value)} : EqT (cx B0 old) 35 [3, 25, 27, 27] := ⟨by kernel_rfl, by kernel_rfl, by kernel_rfl⟩
theorem eqt_36 {B0 : Nat} {old : Nat → Option (List Value)} : EqT (cx B0 old) 36 [3, 25, 27, 27] := ⟨by kernel_rfl, by kernel_rfl, by kernel_rfl⟩
theorem eqt_48 {B0 : Nat} {old : Nat → Option (List Value)} : EqT (cx B0 old) 48 [27, 3] := ⟨by kernel_rfl, by kernel_rfl, by kernel_rfl⟩
theorem eqt_49 {B0 : Nat} {old : Nat → Option (List Value)} : EqT (cx B0 old) 49 [27, 3] := ⟨by kernel_rfl, by kernel_rfl, by kernel_rfl⟩
theorem eqt_68 {B0 : Nat} {old : Nat → Option (List Value)} : EqT (cx B0 old) 68 [3, 3, 3, 3, 3, 3, 3, 3, 3, 3] := ⟨by kernel_rfl, by kernel_rfl, by kernel_rfl⟩
theorem eqt_69 {B0 : Nat} {old : Nat → Option (List Value)} : EqT (cx B0 old) 69 [3, 3, 3, 3, 3, 3, 3, 3, 3, 3] := ⟨by kernel_rfl, by kernel_rfl, by kernel_rfl⟩
theorem eqt_93 {B0 : Nat} {old : Nat → Option (List Value)} : EqT (cx B0 old) 93 [5, 5, 5, 5, 5, 5, 5, 5] := ⟨by kernel_rfl, by kernel_rfl, by kernel_rfl⟩
theorem eqt_94 {B0 : Nat} {old : Nat → Option (List Value)} : EqT (cx B0 old) 94 [5, 5, 5, 5, 5, 5, 5, 5] := ⟨by kernel_rfl, by kernel_rfl, by kernel_rfl⟩
def leT (t : Nat) : Option (List Nat) := match Nat.beq t 7 with | true => some [2, 3, 4, 6] | false => match Nat.beq t 8 with | true => some [2, 3, 4, 6] | false => match Nat.beq t 23 with | true => some [5, 5, 5, 5, 5, 5, 5, 5, 5, 5] | false => match Nat.beq t 24 with | true => some [5, 5, 5, 5, 5, 5, 5, 5, 5, 5] | false => match Nat.beq t 28 with | true => some [27, 3] | false => match Nat.beq t 29 with | true => some [27, 3] | false => match Nat.beq t 30 with | true => some [3, 22, 5, 5, 5, 5, 5, 5, 5, 5, 5, 5, 25, 26, 27, 4, 27, 3, 27, 25, 25] | false => match Nat.beq t 31 with | true => some [3, 22, 5, 5, 5, 5, 5, 5, 5, 5, 5, 5, 25, 26, 27, 4, 27, 3, 27, 25, 25] | false => match Nat.beq t 35 with | true => some [3, 25, 27, 27] | false => match Nat.beq t 36 with | true => some [3, 25, 27, 27] | false => match Nat.beq t 48 with | true => some [27, 3] | false => match Nat.beq t 49 with | true => some [27, 3] | false => match Nat.beq t 68 with | true => some [3, 3, 3, 3, 3, 3, 3, 3, 3, 3] | false => match Nat.beq t 69 with | true => some [3, 3, 3, 3, 3, 3, 3, 3, 3, 3] | false => match Nat.beq t 93 with | true => some [5, 5, 5, 5, 5, 5, 5, 5] | false => match Nat.beq t 94 with | true => some [5, 5, 5, 5, 5, 5, 5, 5] | false => none
theorem eqt {B0 : Nat} {old : Nat → Option (List Value)} {t : Nat} {r : List Nat} (h : leT t = some r) : EqT (cx B0 old) t r := by
  unfold leT at h
  split at h
  · rename_i e; have e := Nat.eq_of_beq_eq_true e; subst e; cases h; exact eqt_7
  split at h
  · rename_i e; have e := Nat.eq_of_beq_eq_true e; subst e; cases h; exact eqt_8
  split at h
  · rename_i e; have e := Nat.eq_of_beq_eq_true e; subst e; cases h; exact eqt_23
  split at h
  · rename_i e; have e := Nat.eq_of_beq_eq_true e; subst e; cases h; exact eqt_24
  split at h
  · rename_i e; have e := Nat.eq_of_beq_eq_true e; subst e; cases h; exact eqt_28
  split at h
  · rename_i e; have e := Nat.eq_of_beq_eq_true e; subst e; cases h; exact eqt_29
  split at h
  · rename_i e; have e := Nat.eq_of_beq_eq_true e; subst e; cases h; exact eqt_30
  split at h
  · rename_i e; have e := Nat.eq_of_beq_eq_true e; subst e; cases h; exact eqt_31
  split at h
  · rename_i e; have e := Nat.eq_of_beq_eq_true e; subst e; cases h; exact eqt_35
  split at h
  · rename_i e; have e := Nat.eq_of_beq_eq_true e; subst e; cases h; exact eqt_36
  split at h
  · rename_i e; have e := Nat.eq_of_beq_eq_true e; subst e; cases h; exact eqt_48
  split at h
  · rename_i e; have e := Nat.eq_of_beq_eq_true e; subst e; cases h; exact eqt_49
  split at h
  · rename_i e; have e := Nat.eq_of_beq_eq_true e; subst e; cases h; exact eqt_68
  split at h
  · rename_i e; have e := Nat.eq_of_beq_eq_true e; subst e; cases h; exact eqt_69
  split at h
  · rename_i e; have e := Nat.eq_of_beq_eq_true e; subst e; cases h; exact eqt_93
  split at h
  · rename_i e; have e := Nat.eq_of_beq_eq_true e; subst e; cases h; exact eqt_94
  cases h
def apT : List (Nat × Nat × Nat) := [(32, 1, 4), (33, 1, 4), (34, 8, 8), (41, 2, 16), (44, 38, 224), (80, 1, 8)]
theorem apT_ok (B0 : Nat) (old : Nat → Option (List Value)) : apT.all (fun e => match appT (cx B0 old) e.1 e.1 with | some n => Nat.beq n.1 e.2.1 && Nat.beq n.2 e.2.2 | none => false) = true := by kernel_rfl
theorem ap {B0 : Nat} {old : Nat → Option (List Value)} {t : Nat} {n : Nat × Nat} (h : lkA apT t = some n) : appT (cx B0 old) t t = some n := by
  have h1 := List.all_eq_true.1 (apT_ok B0 old) _ (lkA_mem _ _ _ h)
  simp only at h1
  split at h1
  · rename_i m e
    rw [e]
    clear e h
    simp only [Bool.and_eq_true] at h1
    have a1 := Nat.eq_of_beq_eq_true h1.1
    have a2 := Nat.eq_of_beq_eq_true h1.2
    clear h1
    obtain ⟨m1, m2⟩ := m
    obtain ⟨n1, n2⟩ := n
    simp only at a1 a2
    subst a1
    subst a2
    rfl
  · cases h1
theorem zr_40 {B0 : Nat} {old : Nat → Option (List Value)} : zeroL (cx B0 old) 40 = some ([.int .i64 0, .int .u64 0, .int .u8 0, .int .u8 0, .int .u8 0, .int .u8 0, .int .u8 0, .int .u8 0, .int .u8 0, .int .u8 0, .int .u8 0, .int .u8 0, .int .u32 0, .int .u64 0, .int .u32 0, .bool false, .int .u32 0, .int .i64 0, .int .u32 0, .int .u32 0, .int .u32 0, .int .i64 0, .slice none 0 0, .int .u32 0, .bool false, .int .u32 0, .bool false, .int .u32 0, .bool false, .int .u32 0, .slice none 0 0, .slice none 0 0, .int .i64 0, .int .u32 0, .int .u32 0, .int .u32 0, .int .u32 0, .bool false], 38) := by kernel_rfl
theorem zr_49 {B0 : Nat} {old : Nat → Option (List Value)} : zeroL (cx B0 old) 49 = some ([.int .u32 0, .int .i64 0], 2) := by kernel_rfl
theorem zr_38 {B0 : Nat} {old : Nat → Option (List Value)} : zeroL (cx B0 old) 38 = some ([.int .i64 0, .slice none 0 0, .int .u32 0, .bool false, .int .u32 0, .bool false, .int .u32 0, .bool false, .int .u32 0, .slice none 0 0, .slice none 0 0, .int .i64 0, .int .u32 0, .int .u32 0, .int .u32 0], 15) := by kernel_rfl
theorem zr_25 {B0 : Nat} {old : Nat → Option (List Value)} : zeroL (cx B0 old) 25 = some ([.int .u32 0], 1) := by kernel_rfl
theorem zr_27 {B0 : Nat} {old : Nat → Option (List Value)} : zeroL (cx B0 old) 27 = some ([.int .u32 0], 1) := by kernel_rfl
theorem zr_89 {B0 : Nat} {old : Nat → Option (List Value)} : zeroL (cx B0 old) 89 = some ([.map none], 1) := by kernel_rfl
theorem zr_69 {B0 : Nat} {old : Nat → Option (List Value)} : zeroL (cx B0 old) 69 = some ([.int .i64 0, .int .i64 0, .int .i64 0, .int .i64 0, .int .i64 0, .int .i64 0, .int .i64 0, .int .i64 0, .int .i64 0, .int .i64 0], 10) := by kernel_rfl
theorem zr_3 {B0 : Nat} {old : Nat → Option (List Value)} : zeroL (cx B0 old) 3 = some ([.int .i64 0], 1) := by kernel_rfl
theorem zr_31 {B0 : Nat} {old : Nat → Option (List Value)} : zeroL (cx B0 old) 31 = some ([.int .i64 0, .int .u64 0, .int .u8 0, .int .u8 0, .int .u8 0, .int .u8 0, .int .u8 0, .int .u8 0, .int .u8 0, .int .u8 0, .int .u8 0, .int .u8 0, .int .u32 0, .int .u64 0, .int .u32 0, .bool false, .int .u32 0, .int .i64 0, .int .u32 0, .int .u32 0, .int .u32 0], 21) := by kernel_rfl
theorem zr_24 {B0 : Nat} {old : Nat → Option (List Value)} : zeroL (cx B0 old) 24 = some ([.int .u8 0, .int .u8 0, .int .u8 0, .int .u8 0, .int .u8 0, .int .u8 0, .int .u8 0, .int .u8 0, .int .u8 0, .int .u8 0], 10) := by kernel_rfl
theorem zr_94 {B0 : Nat} {old : Nat → Option (List Value)} : zeroL (cx B0 old) 94 = some ([.int .u8 0, .int .u8 0, .int .u8 0, .int .u8 0, .int .u8 0, .int .u8 0, .int .u8 0, .int .u8 0], 8) := by kernel_rfl
def zT (t : Nat) : Option (List Value × Nat) := match Nat.beq t 40 with | true => some ([.int .i64 0, .int .u64 0, .int .u8 0, .int .u8 0, .int .u8 0, .int .u8 0, .int .u8 0, .int .u8 0, .int .u8 0, .int .u8 0, .int .u8 0, .int .u8 0, .int .u32 0, .int .u64 0, .int .u32 0, .bool false, .int .u32 0, .int .i64 0, .int .u32 0, .int .u32 0, .int .u32 0, .int .i64 0, .slice none 0 0, .int .u32 0, .bool false, .int .u32 0, .bool false, .int .u32 0, .bool false, .int .u32 0, .slice none 0 0, .slice none 0 0, .int .i64 0, .int .u32 0, .int .u32 0, .int .u32 0, .int .u32 0, .bool false], 38) | false => match Nat.beq t 49 with | true => some ([.int .u32 0, .int .i64 0], 2) | false => match Nat.beq t 38 with | true => some ([.int .i64 0, .slice none 0 0, .int .u32 0, .bool false, .int .u32 0, .bool false, .int .u32 0, .bool false, .int .u32 0, .slice none 0 0, .slice none 0 0, .int .i64 0, .int .u32 0, .int .u32 0, .int .u32 0], 15) | false => match Nat.beq t 25 with | true => some ([.int .u32 0], 1) | false => match Nat.beq t 27 with | true => some ([.int .u32 0], 1) | false => match Nat.beq t 89 with | true => some ([.map none], 1) | false => match Nat.beq t 69 with | true => some ([.int .i64 0, .int .i64 0, .int .i64 0, .int .i64 0, .int .i64 0, .int .i64 0, .int .i64 0, .int .i64 0, .int .i64 0, .int .i64 0], 10) | false => match Nat.beq t 3 with | true => some ([.int .i64 0], 1) | false => match Nat.beq t 31 with | true => some ([.int .i64 0, .int .u64 0, .int .u8 0, .int .u8 0, .int .u8 0, .int .u8 0, .int .u8 0, .int .u8 0, .int .u8 0, .int .u8 0, .int .u8 0, .int .u8 0, .int .u32 0, .int .u64 0, .int .u32 0, .bool false, .int .u32 0, .int .i64 0, .int .u32 0, .int .u32 0, .int .u32 0], 21) | false => match Nat.beq t 24 with | true => some ([.int .u8 0, .int .u8 0, .int .u8 0, .int .u8 0, .int .u8 0, .int .u8 0, .int .u8 0, .int .u8 0, .int .u8 0, .int .u8 0], 10) | false => match Nat.beq t 94 with | true => some ([.int .u8 0, .int .u8 0, .int .u8 0, .int .u8 0, .int .u8 0, .int .u8 0, .int .u8 0, .int .u8 0], 8) | false => none
theorem zr {B0 : Nat} {old : Nat → Option (List Value)} {t : Nat} {r : List Value × Nat} (h : zT t = some r) : zeroL (cx B0 old) t = some r := by
  unfold zT at h
  split at h
  · rename_i e; have e := Nat.eq_of_beq_eq_true e; subst e; cases h; exact zr_40
  split at h
  · rename_i e; have e := Nat.eq_of_beq_eq_true e; subst e; cases h; exact zr_49
  split at h
  · rename_i e; have e := Nat.eq_of_beq_eq_true e; subst e; cases h; exact zr_38
  split at h
  · rename_i e; have e := Nat.eq_of_beq_eq_true e; subst e; cases h; exact zr_25
  split at h
  · rename_i e; have e := Nat.eq_of_beq_eq_true e; subst e; cases h; exact zr_27
  split at h
  · rename_i e; have e := Nat.eq_of_beq_eq_true e; subst e; cases h; exact zr_89
  split at h
  · rename_i e; have e := Nat.eq_of_beq_eq_true e; subst e; cases h; exact zr_69
  split at h
  · rename_i e; have e := Nat.eq_of_beq_eq_true e; subst e; cases h; exact zr_3
  split at h
  · rename_i e; have e := Nat.eq_of_beq_eq_true e; subst e; cases h; exact zr_31
  split at h
  · rename_i e; have e := Nat.eq_of_beq_eq_true e; subst e; cases h; exact zr_24
  split at h
  · rename_i e; have e := Nat.eq_of_beq_eq_true e; subst e; cases h; exact zr_94
  cases h
end Go.Proofs.Ythcohphflhkceaa.Abs
