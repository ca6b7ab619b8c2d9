/- The context of this seat's symbolic runs: the program, the contract of the chapter's closed examples, the table of fields. -/
import Derived.Test.YtcbifjbmbceipaaRows
import Derived.KernelRfl
import Derived.Test.YtcbifjbmbceipaaSep4
namespace Go.Proofs.Ytcbifjbmbceipaa.Abs
open Go
/-- The closed examples answer true. -/
def extS (f : FuncId) (args : List Value) : Option Value := match Nat.beq f 9, args with
  | true, [] => some (.bool true)
  | _, _ => none
noncomputable def cx (B0 : Nat) (old : Nat → Option (List Value)) : Ctx := { P := Try.prog, B0, old, ext := extS }
def lk : List (Nat × Nat × Nat) → Nat → Nat → Option Nat
  | [], _, _ => none
  | (a, b, n) :: r, t, f => match Nat.beq a t with
    | true => (match Nat.beq b f with
      | true => some n
      | false => lk r t f)
    | false => lk r t f
def foT : List (Nat × Nat × Nat) := [(7, 0, 0), (7, 1, 1), (7, 2, 2), (7, 3, 3), (8, 0, 0), (8, 1, 1), (8, 2, 2), (8, 3, 3), (13, 0, 0), (13, 1, 1), (14, 0, 0), (14, 1, 1), (18, 0, 0), (19, 0, 0), (35, 0, 0), (35, 1, 1), (36, 0, 0), (36, 1, 1), (44, 0, 0), (44, 1, 1), (45, 0, 0), (45, 1, 1), (50, 0, 0), (50, 1, 1), (50, 2, 2), (50, 3, 3), (51, 0, 0), (51, 1, 1), (51, 2, 2), (51, 3, 3), (62, 0, 0), (62, 1, 1), (62, 2, 2), (62, 3, 3), (63, 0, 0), (63, 1, 1), (63, 2, 2), (63, 3, 3), (71, 0, 0), (71, 1, 1), (71, 2, 2), (72, 0, 0), (72, 1, 1), (72, 2, 2), (76, 0, 0), (76, 1, 1), (77, 0, 0), (77, 1, 1), (78, 0, 0), (78, 1, 2), (78, 2, 3), (78, 3, 5), (79, 0, 0), (79, 1, 2), (79, 2, 3), (79, 3, 5), (85, 0, 0), (85, 1, 1), (85, 2, 2), (86, 0, 0), (86, 1, 1), (86, 2, 2), (99, 0, 0), (99, 1, 1), (99, 2, 2), (99, 3, 3), (100, 0, 0), (100, 1, 1), (100, 2, 2), (100, 3, 3), (111, 0, 0), (111, 1, 1), (111, 2, 2), (111, 3, 3), (111, 4, 4), (111, 5, 5), (111, 6, 6), (111, 7, 7), (111, 8, 8), (111, 9, 9), (111, 10, 10), (112, 0, 0), (112, 1, 1), (112, 2, 2), (112, 3, 3), (112, 4, 4), (112, 5, 5), (112, 6, 6), (112, 7, 7), (112, 8, 8), (112, 9, 9), (112, 10, 10)]
theorem lk_mem : ∀ (l : List (Nat × Nat × Nat)) (t f n : Nat), lk l t f = some n → (t, f, n) ∈ l
  | [], _, _, _, h => by cases h
  | (a, b, m) :: r, t, f, n, h => by
    unfold lk at h
    split at h
    · rename_i e
      have e := Nat.eq_of_beq_eq_true e
      subst e
      split at h
      · rename_i e2
        have e2 := Nat.eq_of_beq_eq_true e2
        subst e2
        cases h
        exact List.Mem.head _
      · exact List.Mem.tail _ (lk_mem r _ _ _ h)
    · exact List.Mem.tail _ (lk_mem r _ _ _ h)
theorem foT_ok (B0 : Nat) (old : Nat → Option (List Value)) : foT.all (fun e => match fldOff (cx B0 old) e.1 e.2.1 with | some n => Nat.beq n e.2.2 | none => false) = true := by kernel_rfl
theorem ft {B0 : Nat} {old : Nat → Option (List Value)} {t f n : Nat} (h : lk foT t f = some n) : fldOff (cx B0 old) t f = some n := by
  have h1 := List.all_eq_true.1 (foT_ok B0 old) _ (lk_mem _ _ _ _ h)
  simp only at h1
  split at h1
  · rename_i m e; rw [e, Nat.eq_of_beq_eq_true h1]
  · cases h1
def lk2 : List (Nat × Nat) → Nat → Option Nat
  | [], _ => none
  | (a, n) :: r, t => match Nat.beq a t with
    | true => some n
    | false => lk2 r t
theorem lk2_mem : ∀ (l : List (Nat × Nat)) (t n : Nat), lk2 l t = some n → (t, n) ∈ l
  | [], _, _, h => by cases h
  | (a, m) :: r, t, n, h => by
    unfold lk2 at h
    split at h
    · rename_i e
      have e := Nat.eq_of_beq_eq_true e
      subst e
      cases h
      exact List.Mem.head _
    · exact List.Mem.tail _ (lk2_mem r _ _ h)
def szT : List (Nat × Nat) := [(0, 1), (1, 1), (2, 1), (3, 1), (4, 1), (5, 1), (6, 1), (7, 4), (8, 4), (9, 1), (10, 1), (11, 1), (12, 1), (13, 2), (14, 2), (15, 1), (16, 1), (17, 1), (18, 1), (19, 1), (20, 1), (21, 1), (22, 1), (23, 1), (24, 1), (25, 1), (26, 1), (27, 1), (28, 1), (29, 1), (30, 1), (31, 1), (32, 1), (33, 1), (34, 1), (35, 2), (36, 2), (37, 1), (38, 1), (39, 1), (40, 1), (41, 1), (42, 1), (43, 1), (44, 2), (45, 2), (46, 1), (47, 1), (48, 1), (49, 1), (50, 5), (51, 5), (52, 1), (53, 1), (54, 1), (55, 1), (56, 1), (57, 1), (58, 1), (59, 1), (60, 1), (61, 1), (62, 4), (63, 4), (64, 1), (65, 1), (66, 1), (67, 1), (68, 1), (69, 1), (70, 1), (71, 3), (72, 3), (73, 1), (74, 1), (75, 1), (76, 2), (77, 2), (78, 6), (79, 6), (80, 1), (81, 1), (82, 1), (83, 1), (84, 1), (85, 3), (86, 3), (87, 1), (88, 1), (89, 0), (90, 1), (91, 1), (92, 1), (93, 1), (94, 1), (95, 1), (96, 8), (97, 1), (98, 1), (99, 4), (100, 4), (101, 0), (102, 0), (103, 0), (104, 1), (105, 1), (106, 1), (107, 1), (108, 1), (109, 1), (110, 1), (111, 11), (112, 11), (113, 1)]
theorem szT_ok (B0 : Nat) (old : Nat → Option (List Value)) : szT.all (fun e => match sizeAt (cx B0 old) e.1 with | some n => Nat.beq n e.2 | none => false) = true := by kernel_rfl
theorem sz {B0 : Nat} {old : Nat → Option (List Value)} {t n : Nat} (h : lk2 szT t = some n) : sizeAt (cx B0 old) t = some n := by
  have h1 := List.all_eq_true.1 (szT_ok B0 old) _ (lk2_mem _ _ _ h)
  simp only at h1
  split at h1
  · rename_i m e; rw [e, Nat.eq_of_beq_eq_true h1]
  · cases h1
def esT : List (Nat × Nat) := [(22, 1), (23, 1), (40, 2), (54, 4), (74, 1)]
theorem esT_ok (B0 : Nat) (old : Nat → Option (List Value)) : esT.all (fun e => match elSize (cx B0 old) e.1 with | some n => Nat.beq n e.2 | none => false) = true := by kernel_rfl
theorem es {B0 : Nat} {old : Nat → Option (List Value)} {t n : Nat} (h : lk2 esT t = some n) : elSize (cx B0 old) t = some n := by
  have h1 := List.all_eq_true.1 (esT_ok B0 old) _ (lk2_mem _ _ _ h)
  simp only at h1
  split at h1
  · rename_i m e; rw [e, Nat.eq_of_beq_eq_true h1]
  · cases h1
def arT : List (Nat × Nat × Nat) := [(96, 8, 1), (101, 0, 1)]
def lkA : List (Nat × Nat × Nat) → Nat → Option (Nat × Nat)
  | [], _ => none
  | (a, n) :: r, t => match Nat.beq a t with
    | true => some n
    | false => lkA r t
theorem lkA_mem : ∀ (l : List (Nat × Nat × Nat)) (t : Nat) (n : Nat × Nat), lkA l t = some n → (t, n) ∈ l
  | [], _, _, h => by cases h
  | (a, m) :: r, t, n, h => by
    unfold lkA at h
    split at h
    · rename_i e
      have e := Nat.eq_of_beq_eq_true e
      subst e
      cases h
      exact List.Mem.head _
    · exact List.Mem.tail _ (lkA_mem r _ _ h)
theorem arT_ok (B0 : Nat) (old : Nat → Option (List Value)) : arT.all (fun e => match arSize (cx B0 old) e.1 with | some n => Nat.beq n.1 e.2.1 && Nat.beq n.2 e.2.2 | none => false) = true := by kernel_rfl
theorem ar {B0 : Nat} {old : Nat → Option (List Value)} {t : Nat} {n : Nat × Nat} (h : lkA arT t = some n) : arSize (cx B0 old) t = some n := by
  have h1 := List.all_eq_true.1 (arT_ok B0 old) _ (lkA_mem _ _ _ h)
  simp only at h1
  split at h1
  · rename_i m e
    rw [e]
    clear e h
    simp only [Bool.and_eq_true] at h1
    have a1 := Nat.eq_of_beq_eq_true h1.1
    have a2 := Nat.eq_of_beq_eq_true h1.2
    clear h1
    obtain ⟨m1, m2⟩ := m
    obtain ⟨n1, n2⟩ := n
    simp only at a1 a2
    subst a1
    subst a2
    rfl
  · cases h1
theorem eqt_7 {B0 : Nat} {old : Nat → Option (List Value)} : EqT (cx B0 old) 7 [2, 3, 4, 6] := ⟨by kernel_rfl, by kernel_rfl, by kernel_rfl⟩
theorem eqt_8 {B0 : Nat} {old : Nat → Option (List Value)} : EqT (cx B0 old) 8 [2, 3, 4, 6] := ⟨by kernel_rfl, by kernel_rfl, by kernel_rfl⟩
theorem eqt_35 {B0 : Nat} {old : Nat → Option (List Value)} : EqT (cx B0 old) 35 [34, 3] := ⟨by kernel_rfl, by kernel_rfl, by kernel_rfl⟩
theorem eqt_36 {B0 : Nat} {old : Nat → Option (List Value)} : EqT (cx B0 old) 36 [34, 3] := ⟨by kernel_rfl, by kernel_rfl, by kernel_rfl⟩
theorem eqt_44 {B0 : Nat} {old : Nat → Option (List Value)} : EqT (cx B0 old) 44 [3, 3] := ⟨by kernel_rfl, by kernel_rfl, by kernel_rfl⟩
theorem eqt_45 {B0 : Nat} {old : Nat → Option (List Value)} : EqT (cx B0 old) 45 [3, 3] := ⟨by kernel_rfl, by kernel_rfl, by kernel_rfl⟩
theorem eqt_76 {B0 : Nat} {old : Nat → Option (List Value)} : EqT (cx B0 old) 76 [3, 3] := ⟨by kernel_rfl, by kernel_rfl, by kernel_rfl⟩
theorem eqt_77 {B0 : Nat} {old : Nat → Option (List Value)} : EqT (cx B0 old) 77 [3, 3] := ⟨by kernel_rfl, by kernel_rfl, by kernel_rfl⟩
theorem eqt_96 {B0 : Nat} {old : Nat → Option (List Value)} : EqT (cx B0 old) 96 [5, 5, 5, 5, 5, 5, 5, 5] := ⟨by kernel_rfl, by kernel_rfl, by kernel_rfl⟩
def leT (t : Nat) : Option (List Nat) := match Nat.beq t 7 with | true => some [2, 3, 4, 6] | false => match Nat.beq t 8 with | true => some [2, 3, 4, 6] | false => match Nat.beq t 35 with | true => some [34, 3] | false => match Nat.beq t 36 with | true => some [34, 3] | false => match Nat.beq t 44 with | true => some [3, 3] | false => match Nat.beq t 45 with | true => some [3, 3] | false => match Nat.beq t 76 with | true => some [3, 3] | false => match Nat.beq t 77 with | true => some [3, 3] | false => match Nat.beq t 96 with | true => some [5, 5, 5, 5, 5, 5, 5, 5] | false => none
theorem eqt {B0 : Nat} {old : Nat → Option (List Value)} {t : Nat} {r : List Nat} (h : leT t = some r) : EqT (cx B0 old) t r := by
  unfold leT at h
  split at h
  · rename_i e; have e := Nat.eq_of_beq_eq_true e; subst e; cases h; exact eqt_7
  split at h
  · rename_i e; have e := Nat.eq_of_beq_eq_true e; subst e; cases h; exact eqt_8
  split at h
  · rename_i e; have e := Nat.eq_of_beq_eq_true e; subst e; cases h; exact eqt_35
  split at h
  · rename_i e; have e := Nat.eq_of_beq_eq_true e; subst e; cases h; exact eqt_36
  split at h
  · rename_i e; have e := Nat.eq_of_beq_eq_true e; subst e; cases h; exact eqt_44
  split at h
  · rename_i e; have e := Nat.eq_of_beq_eq_true e; subst e; cases h; exact eqt_45
  split at h
  · rename_i e; have e := Nat.eq_of_beq_eq_true e; subst e; cases h; exact eqt_76
  split at h
  · rename_i e; have e := Nat.eq_of_beq_eq_true e; subst e; cases h; exact eqt_77
  split at h
  · rename_i e; have e := Nat.eq_of_beq_eq_true e; subst e; cases h; exact eqt_96
  cases h
def apT : List (Nat × Nat × Nat) := [(22, 1, 1), (23, 1, 8), (40, 2, 16), (54, 4, 48), (74, 1, 8)]
theorem apT_ok (B0 : Nat) (old : Nat → Option (List Value)) : apT.all (fun e => match appT (cx B0 old) e.1 e.1 with | some n => Nat.beq n.1 e.2.1 && Nat.beq n.2 e.2.2 | none => false) = true := by kernel_rfl
theorem ap {B0 : Nat} {old : Nat → Option (List Value)} {t : Nat} {n : Nat × Nat} (h : lkA apT t = some n) : appT (cx B0 old) t t = some n := by
  have h1 := List.all_eq_true.1 (apT_ok B0 old) _ (lkA_mem _ _ _ h)
  simp only at h1
  split at h1
  · rename_i m e
    rw [e]
    clear e h
    simp only [Bool.and_eq_true] at h1
    have a1 := Nat.eq_of_beq_eq_true h1.1
    have a2 := Nat.eq_of_beq_eq_true h1.2
    clear h1
    obtain ⟨m1, m2⟩ := m
    obtain ⟨n1, n2⟩ := n
    simp only at a1 a2
    subst a1
    subst a2
    rfl
  · cases h1
theorem zr_36 {B0 : Nat} {old : Nat → Option (List Value)} : zeroL (cx B0 old) 36 = some ([.int .i64 0, .int .i64 0], 2) := by kernel_rfl
theorem zr_63 {B0 : Nat} {old : Nat → Option (List Value)} : zeroL (cx B0 old) 63 = some ([.int .i64 0, .int .i64 0, .int .u64 0, .slice none 0 0], 4) := by kernel_rfl
theorem zr_3 {B0 : Nat} {old : Nat → Option (List Value)} : zeroL (cx B0 old) 3 = some ([.int .i64 0], 1) := by kernel_rfl
theorem zr_31 {B0 : Nat} {old : Nat → Option (List Value)} : zeroL (cx B0 old) 31 = some ([.int .u64 0], 1) := by kernel_rfl
theorem zr_5 {B0 : Nat} {old : Nat → Option (List Value)} : zeroL (cx B0 old) 5 = some ([.int .u8 0], 1) := by kernel_rfl
theorem zr_77 {B0 : Nat} {old : Nat → Option (List Value)} : zeroL (cx B0 old) 77 = some ([.int .i64 0, .int .i64 0], 2) := by kernel_rfl
theorem zr_79 {B0 : Nat} {old : Nat → Option (List Value)} : zeroL (cx B0 old) 79 = some ([.int .i64 0, .int .i64 0, .slice none 0 0, .int .i64 0, .int .i64 0, .bool false], 6) := by kernel_rfl
theorem zr_51 {B0 : Nat} {old : Nat → Option (List Value)} : zeroL (cx B0 old) 51 = some ([.slice none 0 0, .int .i64 0, .int .i64 0, .int .i64 0, .int .i64 0], 5) := by kernel_rfl
theorem zr_86 {B0 : Nat} {old : Nat → Option (List Value)} : zeroL (cx B0 old) 86 = some ([.slice none 0 0, .int .i64 0, .map none], 3) := by kernel_rfl
theorem zr_72 {B0 : Nat} {old : Nat → Option (List Value)} : zeroL (cx B0 old) 72 = some ([.slice none 0 0, .int .i64 0, .slice none 0 0], 3) := by kernel_rfl
theorem zr_89 {B0 : Nat} {old : Nat → Option (List Value)} : zeroL (cx B0 old) 89 = some ([], 0) := by kernel_rfl
theorem zr_96 {B0 : Nat} {old : Nat → Option (List Value)} : zeroL (cx B0 old) 96 = some ([.int .u8 0, .int .u8 0, .int .u8 0, .int .u8 0, .int .u8 0, .int .u8 0, .int .u8 0, .int .u8 0], 8) := by kernel_rfl
def zT (t : Nat) : Option (List Value × Nat) := match Nat.beq t 36 with | true => some ([.int .i64 0, .int .i64 0], 2) | false => match Nat.beq t 63 with | true => some ([.int .i64 0, .int .i64 0, .int .u64 0, .slice none 0 0], 4) | false => match Nat.beq t 3 with | true => some ([.int .i64 0], 1) | false => match Nat.beq t 31 with | true => some ([.int .u64 0], 1) | false => match Nat.beq t 5 with | true => some ([.int .u8 0], 1) | false => match Nat.beq t 77 with | true => some ([.int .i64 0, .int .i64 0], 2) | false => match Nat.beq t 79 with | true => some ([.int .i64 0, .int .i64 0, .slice none 0 0, .int .i64 0, .int .i64 0, .bool false], 6) | false => match Nat.beq t 51 with | true => some ([.slice none 0 0, .int .i64 0, .int .i64 0, .int .i64 0, .int .i64 0], 5) | false => match Nat.beq t 86 with | true => some ([.slice none 0 0, .int .i64 0, .map none], 3) | false => match Nat.beq t 72 with | true => some ([.slice none 0 0, .int .i64 0, .slice none 0 0], 3) | false => match Nat.beq t 89 with | true => some ([], 0) | false => match Nat.beq t 96 with | true => some ([.int .u8 0, .int .u8 0, .int .u8 0, .int .u8 0, .int .u8 0, .int .u8 0, .int .u8 0, .int .u8 0], 8) | false => none
theorem zr {B0 : Nat} {old : Nat → Option (List Value)} {t : Nat} {r : List Value × Nat} (h : zT t = some r) : zeroL (cx B0 old) t = some r := by
  unfold zT at h
  split at h
  · rename_i e; have e := Nat.eq_of_beq_eq_true e; subst e; cases h; exact zr_36
  split at h
  · rename_i e; have e := Nat.eq_of_beq_eq_true e; subst e; cases h; exact zr_63
  split at h
  · rename_i e; have e := Nat.eq_of_beq_eq_true e; subst e; cases h; exact zr_3
  split at h
  · rename_i e; have e := Nat.eq_of_beq_eq_true e; subst e; cases h; exact zr_31
  split at h
  · rename_i e; have e := Nat.eq_of_beq_eq_true e; subst e; cases h; exact zr_5
  split at h
  · rename_i e; have e := Nat.eq_of_beq_eq_true e; subst e; cases h; exact zr_77
  split at h
  · rename_i e; have e := Nat.eq_of_beq_eq_true e; subst e; cases h; exact zr_79
  split at h
  · rename_i e; have e := Nat.eq_of_beq_eq_true e; subst e; cases h; exact zr_51
  split at h
  · rename_i e; have e := Nat.eq_of_beq_eq_true e; subst e; cases h; exact zr_86
  split at h
  · rename_i e; have e := Nat.eq_of_beq_eq_true e; subst e; cases h; exact zr_72
  split at h
  · rename_i e; have e := Nat.eq_of_beq_eq_true e; subst e; cases h; exact zr_89
  split at h
  · rename_i e; have e := Nat.eq_of_beq_eq_true e; subst e; cases h; exact zr_96
  cases h
end Go.Proofs.Ytcbifjbmbceipaa.Abs
