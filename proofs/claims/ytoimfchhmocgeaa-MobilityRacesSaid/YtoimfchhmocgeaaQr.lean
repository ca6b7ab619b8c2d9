/- Five leaves in plain Lean: moves and races. -/
import Derived.Test.YtoimfchhmocgeaaQp
import Derived.Test.YtoimfchhmocgeaaQl
namespace Go.Proofs.Ytoimfchhmocgeaa.Abs
open Go
set_option linter.unusedVariables false
def eO : Lfo := ⟨false, false, none, 0⟩
def cO : Lfo := ⟨true, false, some 0, 0⟩
/-- The address is at a leaf, or at none. -/
def stO (w : Option Nat) : List Lfo := (List.range 5).map fun i => if w == some i then cO else eO
def hasO (n : Nat) (A : List Lfo) : List Lfo := match A[n]? with
  | some x => A.set n ⟨true, x.same, x.cl, x.c⟩
  | none => A
def hasL (n : Nat) (ls : List Lf) : List Lf := match ls[n]? with
  | some x => ls.set n ⟨true, x.same, x.cl, x.mv⟩
  | none => ls
def bump (d : Nat) (x : Lfo) : Lfo := ⟨x.has, x.same, x.cl.map (· + d), x.c + 1⟩
def leO : List Lfo → List Lfo → Bool
  | [], [] => true
  | x :: r, y :: t => (x.has == y.has) && (x.same == y.same) && (x.cl == y.cl) && Nat.ble x.c y.c && leO r t
  | _, _ => false
def dO (w : Option Nat) (n : Nat) : Nat := match w with
  | none => 0
  | some a => if a = n then 0 else 1
def okMeet (w : Option Nat) (n : Nat) : Bool := match roundsO w.isNone 3 (hasO n (stO w)) with
  | none => false
  | some A => leO A ((stO (some n)).map (bump (dO w n)))
def Wok (w : Option Nat) : Prop := ∀ a, w = some a → a < 5
theorem okMeet_all : (∀ n, n < 5 → okMeet none n = true) ∧ ∀ a, a < 5 → ∀ n, n < 5 → okMeet (some a) n = true := by decide
section
variable {s : Int} {m : Nat}
theorem RelS.le : ∀ {ls : List Lf} {A B : List Lfo}, RelS s m ls A → leO A B = true → RelS s m ls B
  | [], [], [], _, _ => trivial
  | x :: r, a :: t, b :: u, h, e => by
    unfold leO at e
    simp only [Bool.and_eq_true, beq_iff_eq] at e
    obtain ⟨⟨⟨⟨e1, e2⟩, e3⟩, e4⟩, e5⟩ := e
    obtain ⟨⟨h1, h2, h3, h4, h5⟩, h6⟩ := h
    have e4 := Nat.le_of_ble_eq_true e4
    exact ⟨⟨h1.trans e1, h2.trans e2, by rw [h3, e3], h4, by omega⟩, RelS.le h6 e5⟩
  | [], [], _ :: _, _, e => by cases e
  | _ :: _, _ :: _, [], _, e => by cases e
  | [], _ :: _, _, h, _ => h.elim
  | _ :: _, [], _, h, _ => h.elim
theorem RelS.bump (d : Nat) : ∀ {ls : List Lf} {A : List Lfo}, RelS s m ls (A.map (Abs.bump d)) → RelS (s + d) (m + 1) ls A
  | [], [], _ => trivial
  | x :: r, a :: t, h => by
    obtain ⟨⟨h1, h2, h3, h4, h5⟩, h6⟩ := h
    refine ⟨⟨h1, h2, ?_, h4, by simp only [Abs.bump] at h5; omega⟩, RelS.bump d h6⟩
    rw [h3]
    simp only [Abs.bump]
    cases a.cl with
    | none => rfl
    | some o =>
      simp only [Option.map_some]
      congr 2
      omega
  | [], _ :: _, h => h.elim
  | _ :: _, [], h => h.elim
theorem RelS.has {ls : List Lf} {A : List Lfo} (n : Nat) (h : RelS s m ls A) : RelS s m (hasL n ls) (hasO n A) := by
  unfold hasL hasO
  cases ha : A[n]? with
  | none =>
    have hn : ls[n]? = none := by
      rw [List.getElem?_eq_none_iff] at ha ⊢
      rw [h.len]; exact ha
    rw [hn]
    exact h
  | some a =>
    obtain ⟨x, hx, hr⟩ := h.get ha
    rw [hx]
    obtain ⟨h1, h2, h3, h4, h5⟩ := hr
    exact RelS.set n h ⟨rfl, h2, h3, h4, h5⟩
/-- A move, and three rounds. -/
theorem meet_step {w : Option Nat} {n : Nat} {ls : List Lf} (now : Int) (hw : Wok w) (hn : n < 5) (hz : w = none → s = 0) (hs : 0 ≤ s ∧ s ≤ 1000) (hm : m ≤ 95) (h : RelS s m ls (stO w)) :
    RelS (s + (dO w n : Int)) (m + 1) (roundsL now 3 (hasL n ls)) (stO (some n)) := by
  have hok : okMeet w n = true := by
    cases w with
    | none => exact okMeet_all.1 n hn
    | some a => exact okMeet_all.2 a (hw a rfl) n hn
  unfold okMeet at hok
  cases e : roundsO w.isNone 3 (hasO n (stO w)) with
  | none => rw [e] at hok; cases hok
  | some A =>
    rw [e] at hok
    have h1 := rounds_rel (z := w.isNone) now (fun g => hz (Option.isNone_iff_eq_none.1 g)) hs hm 3 (h.has n) e
    exact RelS.bump _ (RelS.le h1 hok)
theorem stO_get {w : Option Nat} {k : Nat} (hk : k < 5) : (stO w)[k]? = some (if w == some k then cO else eO) := by
  unfold stO
  rw [List.getElem?_map, List.getElem?_range hk]
  rfl
/-- The leaves when the address is at one of them. -/
theorem st_get {w : Option Nat} {k : Nat} {ls : List Lf} (h : RelS s m ls (stO w)) (hk : k < 5) : ∃ x, ls[k]? = some x ∧ x.has = (w == some k) ∧ x.same = false ∧ x.cl = (if w == some k then some (s, false) else none) := by
  obtain ⟨x, hx, h1, h2, h3, _⟩ := h.get (stO_get hk)
  refine ⟨x, hx, ?_, ?_, ?_⟩
  · rw [h1]; cases (w == some k) <;> rfl
  · rw [h2]; cases (w == some k) <;> rfl
  · rw [h3]
    cases (w == some k)
    · rfl
    · show some (s + ((0 : Nat) : Int), false) = _
      simp
/-! ### Races -/
def offO (A : List Lfo) : List Lfo := A.map fun x => ⟨false, x.same, x.cl, x.c⟩
def offL (ls : List Lf) : List Lf := ls.map fun x => ⟨false, x.same, x.cl, x.mv⟩
theorem RelS.off : ∀ {ls : List Lf} {A : List Lfo}, RelS s m ls A → RelS s m (offL ls) (offO A)
  | [], [], _ => trivial
  | x :: r, a :: t, h => by
    obtain ⟨⟨h1, h2, h3, h4, h5⟩, h6⟩ := h
    exact ⟨⟨rfl, h2, h3, h4, h5⟩, RelS.off h6⟩
  | [], _ :: _, h => h.elim
  | _ :: _, [], h => h.elim
def okOff (w : Option Nat) : Bool := match roundsO false 1 (offO (stO w)) with
  | none => false
  | some A => leO A (stO none)
theorem okOff_all : okOff none = true ∧ ∀ a, a < 5 → okOff (some a) = true := by decide
theorem off_step {w : Option Nat} {ls : List Lf} (now : Int) (hw : Wok w) (hs : 0 ≤ s ∧ s ≤ 1000) (hm : m ≤ 95) (h : RelS s m ls (stO w)) : RelS 0 m (roundsL now 1 (offL ls)) (stO none) := by
  have hok : okOff w = true := by
    cases w with
    | none => exact okOff_all.1
    | some a => exact okOff_all.2 a (hw a rfl)
  unfold okOff at hok
  cases e : roundsO false 1 (offO (stO w)) with
  | none => rw [e] at hok; cases hok
  | some A =>
    rw [e] at hok
    have h1 := RelS.le (rounds_rel (z := false) now (fun g => (by cases g)) hs hm 1 h.off e) hok
    have key : ∀ {ls : List Lf} {A : List Lfo}, (∀ a ∈ A, a.cl = none) → RelS s m ls A → RelS 0 m ls A := by
      intro ls
      induction ls with
      | nil => intro A _ h; cases A with
        | nil => trivial
        | cons _ _ => exact h.elim
      | cons x r ih => intro A ha h; cases A with
        | nil => exact h.elim
        | cons a t =>
          obtain ⟨⟨h1, h2, h3, h4, h5⟩, h6⟩ := h
          refine ⟨⟨h1, h2, ?_, h4, h5⟩, ih (fun b hb => ha b (List.mem_cons_of_mem _ hb)) h6⟩
          rw [h3, ha a (List.mem_cons_self ..)]
          rfl
    refine key ?_ h1
    intro a ha
    unfold stO at ha
    obtain ⟨i, hi, rfl⟩ := List.mem_map.1 ha
    rfl
/-- A leaf learns the address. -/
def lrO (sh b : Bool) : Lfo := match b with
  | true => ⟨true, sh, some 0, 0⟩
  | false => eO
/-- The leaves when the first k of them have learned, or not. -/
def lnO (sh : Bool) (f : Nat → Bool) (k : Nat) : List Lfo := (List.range 5).map fun i => lrO sh (Nat.blt i k && f i)
def lrL (sh : Bool) (n : Nat) (x : Lf) : Lf := setLf 31 n none ⟨true, sh, x.cl, x.mv⟩
theorem lr_rel {x : Lf} {n : Nat} (sh : Bool) (hm : m ≤ 95) (h : RelL 0 m x eO) : RelL 0 m (lrL sh n x) (lrO sh true) := by
  obtain ⟨h1, h2, h3, h4, h5⟩ := h
  exact set_rel (z := true) (rv := none) (a := ⟨true, sh, none, 0⟩) (x := ⟨true, sh, x.cl, x.mv⟩) 31 (fun _ => rfl) (by omega) hm rfl ⟨rfl, rfl, h3, h4, h5⟩ n
theorem lnO_get {sh : Bool} {f : Nat → Bool} {k i : Nat} (hi : i < 5) : (lnO sh f k)[i]? = some (lrO sh (Nat.blt i k && f i)) := by
  unfold lnO
  rw [List.getElem?_map, List.getElem?_range hi]
  rfl
theorem ln_step {sh : Bool} {f : Nat → Bool} {k : Nat} {ls : List Lf} (hk : k < 5) (hm : m ≤ 95) (h : RelS 0 m ls (lnO sh f k)) :
    (f k = false → RelS 0 m ls (lnO sh f (k + 1))) ∧ (f k = true → ∃ x, ls[k]? = some x ∧ RelS 0 m (ls.set k (lrL sh k x)) (lnO sh f (k + 1))) := by
  have e0 : ∀ b, lnO sh f (k + 1) = (lnO sh f k).set k (lrO sh b) ↔ b = f k ∨ lnO sh f (k + 1) = (lnO sh f k).set k (lrO sh b) := fun b => by
    constructor
    · exact .inr
    · rintro (rfl | h)
      · refine List.ext_getElem? fun i => ?_
        by_cases hi : i < 5
        · rw [lnO_get hi, List.getElem?_set, lnO_get hi]
          by_cases e : k = i
          · subst e
            rw [if_pos rfl, if_pos (by unfold lnO; simp; omega)]
            have : Nat.blt k (k + 1) = true := by simp [Nat.blt]
            rw [this]; rfl
          · rw [if_neg e]
            have : Nat.blt i (k + 1) = Nat.blt i k := by
              simp only [Nat.blt]
              rw [Bool.eq_iff_iff]
              simp only [Nat.ble_eq]
              omega
            rw [this]
        · rw [List.getElem?_eq_none (by unfold lnO; simp; omega), List.getElem?_eq_none (by unfold lnO; simp; omega)]
      · exact h
  have e1 := (e0 (f k)).2 (.inl rfl)
  have hg : (lnO sh f k)[k]? = some eO := by
    rw [lnO_get hk]
    have : Nat.blt k k = false := by
      cases e : Nat.blt k k with
      | false => rfl
      | true => exact absurd (Nat.le_of_ble_eq_true e) (by omega)
    rw [this]; rfl
  obtain ⟨x, hx, hr⟩ := h.get hg
  constructor
  · intro hf
    rw [e1, hf]
    have h2 := RelS.set k h hr
    have e2 : ls.set k x = ls := by
      obtain ⟨hl, rfl⟩ := List.getElem?_eq_some_iff.1 hx
      exact List.set_getElem_self hl
    rw [e2] at h2
    exact h2
  · intro hf
    refine ⟨x, hx, ?_⟩
    rw [e1, hf]
    exact RelS.set k h (lr_rel sh hm hr)
def leastO (f : Nat → Bool) : Option Nat := (List.range 5).find? f
def wantO (sh : Bool) (f : Nat → Bool) (n : Nat) : Bool := (leastO f == some n) || (sh && f n)
def fB (a b c d e : Bool) (n : Nat) : Bool := match n with
  | 0 => a
  | 1 => b
  | 2 => c
  | 3 => d
  | _ => e
def endO (sh : Bool) (f : Nat → Bool) : List Lfo := (List.range 5).map fun i => ⟨wantO sh f i, sh && f i, if wantO sh f i then some 0 else none, 3⟩
def samesO (A B : List Lfo) : Bool := match A, B with
  | [], [] => true
  | x :: r, y :: t => (x.has == y.has) && (x.cl == y.cl) && samesO r t
  | _, _ => false
def okRace (sh : Bool) (f : Nat → Bool) : Bool := match roundsO true 3 (lnO sh f 5) with
  | none => false
  | some A => samesO A (endO sh f)
theorem okRace_all : ∀ sh a b c d e : Bool, okRace sh (fB a b c d e) = true := by decide
theorem okRace_f (sh : Bool) (f : Nat → Bool) : okRace sh f = true := by
  have e : ∀ i, i < 5 → f i = fB (f 0) (f 1) (f 2) (f 3) (f 4) i := fun i hi => by
    have : i = 0 ∨ i = 1 ∨ i = 2 ∨ i = 3 ∨ i = 4 := by omega
    rcases this with rfl | rfl | rfl | rfl | rfl <;> rfl
  have h := okRace_all sh (f 0) (f 1) (f 2) (f 3) (f 4)
  have e1 : lnO sh f 5 = lnO sh (fB (f 0) (f 1) (f 2) (f 3) (f 4)) 5 := List.map_congr_left fun i hi => by rw [e i (List.mem_range.1 hi)]
  have e2 : leastO f = leastO (fB (f 0) (f 1) (f 2) (f 3) (f 4)) := by
    unfold leastO
    rfl
  have e3 : endO sh f = endO sh (fB (f 0) (f 1) (f 2) (f 3) (f 4)) := List.map_congr_left fun i hi => by
    unfold wantO
    rw [e2, e i (List.mem_range.1 hi)]
  unfold okRace at h ⊢
  rw [e1, e3]
  exact h
theorem race_end {sh : Bool} {f : Nat → Bool} {ls : List Lf} (now : Int) (hm : m ≤ 95) (h : RelS 0 m ls (lnO sh f 5)) (n : Nat) (hn : n < 5) :
    ∃ x, (roundsL now 3 ls)[n]? = some x ∧ x.has = wantO sh f n ∧ x.cl = if wantO sh f n = true then some (0, false) else none := by
  have hok := okRace_f sh f
  unfold okRace at hok
  cases e : roundsO true 3 (lnO sh f 5) with
  | none => rw [e] at hok; cases hok
  | some A =>
    rw [e] at hok
    have h1 := rounds_rel (z := true) now (fun _ => rfl) (by omega) hm 3 h e
    have key : ∀ {A B : List Lfo} {n : Nat} {b : Lfo}, samesO A B = true → B[n]? = some b → ∃ a, A[n]? = some a ∧ a.has = b.has ∧ a.cl = b.cl := by
      intro A
      induction A with
      | nil => intro B n b e hb; cases B with
        | nil => cases n <;> cases hb
        | cons _ _ => cases e
      | cons x r ih => intro B n b e hb; cases B with
        | nil => cases e
        | cons y t =>
          unfold samesO at e
          simp only [Bool.and_eq_true, beq_iff_eq] at e
          cases n with
          | zero => cases hb; exact ⟨x, rfl, e.1.1, e.1.2⟩
          | succ n =>
            have hb : t[n]? = some b := hb
            exact ih e.2 hb
    have hb : (endO sh f)[n]? = some ⟨wantO sh f n, sh && f n, if wantO sh f n then some 0 else none, 3⟩ := by
      unfold endO
      rw [List.getElem?_map, List.getElem?_range hn]
      rfl
    obtain ⟨a, ha, g1, g2⟩ := key hok hb
    obtain ⟨x, hx, k1, k2, k3, _⟩ := h1.get ha
    refine ⟨x, hx, k1.trans g1, ?_⟩
    rw [k3, g2]
    cases wantO sh f n <;> rfl
end
end Go.Proofs.Ytoimfchhmocgeaa.Abs

/- Five leaves in memory; the best claim of the others. -/
namespace Go.Proofs.Ytoimfchhmocgeaa.Abs
open Go
set_option linter.unusedVariables false
def enLf (x : Nat × Bool × Bool) : List Value := [.pointer (some ⟨x.1, 0, none⟩), .bool x.2.1, .bool x.2.2]
theorem enLf_len (x : Nat × Bool × Bool) : (enLf x).length = 3 := rfl
theorem enLf_one (x : Nat × Bool × Bool) : (enLf x).all Value.oneCell' = true := rfl
def lvA : List Nat → List Lf → List (Nat × Bool × Bool)
  | p :: t, x :: r => (p, x.has, x.same) :: lvA t r
  | _, _ => []
theorem lvA_get : ∀ {ps : List Nat} {ls : List Lf} {i : Nat} {p : Nat} {x : Lf}, ps[i]? = some p → ls[i]? = some x → (lvA ps ls)[i]? = some (p, x.has, x.same)
  | [], _, i, p, x, h, _ => by cases i <;> cases h
  | _ :: _, [], i, p, x, _, h => by cases i <;> cases h
  | a :: t, y :: r, 0, p, x, h, h2 => by cases h; cases h2; rfl
  | a :: t, y :: r, i + 1, p, x, h, h2 => lvA_get (ps := t) (ls := r) (i := i) h h2
theorem lvA_set : ∀ {ps : List Nat} {ls : List Lf} {i : Nat} {p : Nat} (x : Lf), ps[i]? = some p → lvA ps (ls.set i x) = (lvA ps ls).set i (p, x.has, x.same)
  | [], _, i, p, x, h => by cases i <;> cases h
  | _ :: _, [], i, p, x, h => by cases i <;> rfl
  | a :: t, y :: r, 0, p, x, h => by cases h; rfl
  | a :: t, y :: r, i + 1, p, x, h => congrArg (_ :: ·) (lvA_set (ps := t) (ls := r) (i := i) x h)
theorem lvA_len : ∀ {ps : List Nat} {ls : List Lf}, ps.length = ls.length → (lvA ps ls).length = ls.length
  | [], [], _ => rfl
  | [], _ :: _, h => by cases h
  | _ :: _, [], h => by cases h
  | a :: t, y :: r, h => by
    have h : t.length = r.length := Nat.succ.inj h
    show (lvA t r).length + 1 = r.length + 1
    rw [lvA_len h]
/-- The books of leaves. -/
def BksI (last : Int) : List Nat → List Lf → Hp → Prop
  | [], [], HB => HB = []
  | p :: t, x :: r, HB => ∃ G HR l, HB = G ++ HR ∧ (0 ≤ l ∧ l ≤ last) ∧ BkI 100 10000 K5 p l x.cl x.mv G ∧ BksI last t r HR
  | _, _, _ => False
theorem BksI.mono {a b : Int} (h : a ≤ b) : ∀ {ps : List Nat} {ls : List Lf} {HB : Hp}, BksI a ps ls HB → BksI b ps ls HB
  | [], [], HB, e => e
  | p :: t, x :: r, HB, ⟨G, HR, l, e, h1, h2, h3⟩ => ⟨G, HR, l, e, ⟨h1.1, by omega⟩, h2, BksI.mono h h3⟩
  | [], _ :: _, _, e => e.elim
  | _ :: _, [], _, e => e.elim
theorem BksI.len {a : Int} : ∀ {ps : List Nat} {ls : List Lf} {HB : Hp}, BksI a ps ls HB → ps.length = ls.length
  | [], [], HB, e => rfl
  | p :: t, x :: r, HB, ⟨G, HR, l, e, h1, h2, h3⟩ => congrArg Nat.succ (BksI.len h3)
  | [], _ :: _, _, e => e.elim
  | _ :: _, [], _, e => e.elim
theorem BksI.at {a : Int} : ∀ {ps : List Nat} {ls : List Lf} {HB : Hp} {i : Nat} {x : Lf}, BksI a ps ls HB → ls[i]? = some x → ∃ p G R l, ps[i]? = some p ∧ HB.Perm (G ++ R) ∧ (0 ≤ l ∧ l ≤ a) ∧ BkI 100 10000 K5 p l x.cl x.mv G ∧
    ∀ (b : Int) (x' : Lf) (l' : Int) (G' : Hp), a ≤ b → (0 ≤ l' ∧ l' ≤ b) → BkI 100 10000 K5 p l' x'.cl x'.mv G' → ∃ HB', (G' ++ R).Perm HB' ∧ BksI b ps (ls.set i x') HB'
  | [], [], HB, i, x, e, h => by cases i <;> cases h
  | p :: t, y :: r, HB, 0, x, ⟨G, HR, l, e, h1, h2, h3⟩, h => by
    cases h
    exact ⟨p, G, HR, l, rfl, by rw [e], h1, h2, fun b x' l' G' hb hl' hB' => ⟨G' ++ HR, List.Perm.refl _, G', HR, l', rfl, hl', hB', h3.mono hb⟩⟩
  | p :: t, y :: r, HB, i + 1, x, ⟨G, HR, l, e, h1, h2, h3⟩, h => by
    have h : r[i]? = some x := h
    obtain ⟨p1, G1, R1, l1, k1, k2, k3, k4, k5⟩ := BksI.at h3 h
    refine ⟨p1, G1, G ++ R1, l1, k1, ?_, k3, k4, fun b x' l' G' hb hl' hB' => ?_⟩
    · rw [e]
      exact (List.Perm.append_left G k2).trans (List.perm_append_comm_assoc G G1 R1)
    · obtain ⟨HB', g1, g2⟩ := k5 b x' l' G' hb hl' hB'
      exact ⟨G ++ HB', (List.perm_append_comm_assoc G' G R1).trans (List.Perm.append_left G g1), G, HB', l, rfl, ⟨h1.1, by omega⟩, h2, g2⟩
  | [], _ :: _, _, _, _, e, _ => e.elim
  | _ :: _, [], _, _, _, e, _ => e.elim
theorem pmX {A B HB G R H : Hp} (hp : HB.Perm (G ++ R)) : (A ++ (B ++ (HB ++ H))).Perm (G ++ (A ++ (B ++ (R ++ H)))) := by
  have h1 : (HB ++ H).Perm (G ++ (R ++ H)) := by
    have := hp.append_right H
    rwa [List.append_assoc] at this
  exact (List.Perm.append_left A (List.Perm.append_left B h1)).trans ((List.Perm.append_left A (List.perm_append_comm_assoc B G _)).trans (List.perm_append_comm_assoc A G _))
/-- Five leaves in memory. -/
structure LvI (ps : List Nat) (v : Value) (last : Int) (m : Nat) (ls : List Lf) (GA HB : Hp) : Prop where
  own : Own enLf 3 (lvA ps ls) v GA
  bks : BksI last ps ls HB
  len : ls.length = 5
  bd : ∀ x ∈ ls, lenM x.mv ≤ m
section
variable {B0 : Nat} {old : Nat → Option (List Value)} {n m : Nat} {H GA HB : Hp} {Q : Value → Hp → Prop} {ps : List Nat} {v : Value} {last : Int} {ls : List Lf}
set_option maxRecDepth 10000
set_option maxHeartbeats 8000000
theorem LvI.alen (h : LvI ps v last m ls GA HB) : (lvA ps ls).length = 5 := (lvA_len h.bks.len).trans h.len
theorem best_drop (k : Nat) (sn : Bool) {i : Nat} {acc : Option S27} {x : Lf} (h : ls[i]? = some x) : bestGo k sn i acc (ls.drop i) = bestGo k sn (i + 1) (bestUp k sn i acc x) (ls.drop (i + 1)) := by
  obtain ⟨hl, rfl⟩ := List.getElem?_eq_some_iff.1 h
  rw [List.drop_eq_getElem_cons hl]
  rfl
theorem best54_ct (hL : LvI ps v last m ls GA HB) (k : Nat) (hk : k < 5) (hQ : ∀ w Gr, Own en27 5 (rivL (bestM ls k)) w Gr → Q w (Gr ++ (GA ++ (HB ++ H)))) :
    CallT (cx B0 old) (acall (cx B0 old) ansP (n + 2017)) 54 [v, .int .i64 (k : Int)] (GA ++ (HB ++ H)) Q := by
  refine call_in2 72 rfl Try.func54 rfl rfl ?_
  have hal := hL.alen
  obtain ⟨ad, c, e, ga⟩ := hL.own.arrW (C := cx B0 old) enLf_len
  rw [hal] at e
  subst e
  have hA : Arr (cx B0 old) (GA ++ (HB ++ H)) ad 3 enLf (lvA ps ls) := (ga [] (HB ++ H)).arr enLf_len
  clear ga
  obtain ⟨sn, hsn⟩ : ∃ sn, sameAt ls k = sn := ⟨_, rfl⟩
  have hlen := hL.len
  repeat (first | refine Z0 ?_ | (refine ZR ?_; first | refine x1 ?_ | refine x2 ?_ | refine x8 ?_ | refine Z1 ?_ | refine Z2 ?_ | refine x3 fun _ => ?_ | refine x4 fun _ => ?_ | refine x5 fun _ => ?_ | refine Z3 fun _ => ?_ | refine Z4 fun _ => ?_) | refine ZC ?_)
  refine loop_ind (ι := Nat × Option S27 × Value × Hp) (0, none, .slice none 0 0, []) (fun j => 5 - j.1) (fun j => j.1 ≤ 5 ∧ bestGo k sn j.1 j.2.1 (ls.drop j.1) = bestM ls k ∧ Own en27 5 (rivL j.2.1) j.2.2.1 j.2.2.2)
    (fun j => [(6, .int .i64 (j.1 : Int)), (5, j.2.2.1), (0, .slice ad 5 c), (1, .int .i64 (k : Int))]) (fun j => j.2.2.2 ++ (GA ++ (HB ++ H))) ⟨Nat.zero_le _, by rw [← hsn]; rfl, Own.nil⟩ (by repeat (first | exact SubL.nil | refine SubL.cons rfl ?_)) (List.Sublist.refl _) ?_
  rintro ⟨i, acc, w, Gr⟩ ⟨hi, hb, hw⟩
  dsimp only at hi hb hw ⊢
  obtain ⟨adw, cw, ew, gw⟩ := hw.arrW (C := cx B0 old) en27_len
  repeat (first | refine Z0 ?_ | (refine ZR ?_; first | refine x1 ?_ | refine x2 ?_ | refine x8 ?_ | refine Z1 ?_ | refine Z2 ?_ | refine x3 fun _ => ?_ | refine x4 fun _ => ?_ | refine x5 fun _ => ?_ | refine Z3 fun _ => ?_ | refine Z4 fun _ => ?_) | refine ZC ?_)
  rw [show ((5 : Nat) : Int) = 5 from rfl]
  refine ct_condT te_d rfl (fun hlt => ?_) (fun hlt => ?_)
  rotate_left
  · obtain rfl : i = 5 := by omega
    rw [List.drop_eq_nil_of_le (by omega)] at hb
    have hb : acc = bestM ls k := hb
    rw [hb] at hw
    repeat (first | refine Z0 ?_ | (refine ZR ?_; first | refine x1 ?_ | refine x2 ?_ | refine x8 ?_ | refine Z1 ?_ | refine Z2 ?_ | refine x3 fun _ => ?_ | refine x4 fun _ => ?_ | refine x5 fun _ => ?_ | refine Z3 fun _ => ?_ | refine Z4 fun _ => ?_) | refine ZC ?_)
    exact re_1 rfl rfl (List.Sublist.refl _) (hQ w Gr hw)
  have hil : i < ls.length := by omega
  obtain ⟨x, hx⟩ : ∃ x, ls[i]? = some x := ⟨_, List.getElem?_eq_getElem hil⟩
  rw [best_drop k sn hx] at hb
  obtain ⟨p, Gi, R, l, hp, hpm, hl, hB, hback⟩ := hL.bks.at hx
  have hai := lvA_get hp hx
  obtain ⟨b1, o1, e1, hL0⟩ := hA.ldF 33 0 hai rfl rfl rfl (sz rfl)
  obtain ⟨b2, o2, e2, hL1⟩ := hA.ldF 4 2 hai rfl rfl rfl (sz rfl)
  subst e1
  cases e2
  have hkl : k < ls.length := by omega
  obtain ⟨y, hy⟩ : ∃ y, ls[k]? = some y := ⟨_, List.getElem?_eq_getElem hkl⟩
  have hysn : y.same = sn := by rw [← hsn]; unfold sameAt; rw [hy]
  obtain ⟨p2, _, _, _, hp2, _⟩ := hL.bks.at hy
  obtain ⟨b3, o3, e3, hL2⟩ := hA.ldF 4 2 (lvA_get hp2 hy) rfl rfl rfl (sz rfl)
  cases e3
  dsimp only at hL1 hL2
  rw [hysn] at hL2
  repeat (first | refine Z0 ?_ | (refine ZR ?_; first | refine x1 ?_ | refine x2 ?_ | refine x8 ?_ | refine Z1 ?_ | refine Z2 ?_ | refine x3 fun _ => ?_ | refine x4 fun _ => ?_ | refine x5 fun _ => ?_ | refine Z3 fun _ => ?_ | refine Z4 fun _ => ?_) | refine ZC ?_)
  refine rt_step rfl rfl rfl (st_call rfl rfl rfl rfl (CallT.perm (claimsW (n := n) (H := Gr ++ (GA ++ (R ++ H))) hB K5_ok fun vc Gv ho => ?_) (pmX hpm).symm))
  refine RunT.perm ?_ (List.Perm.append_left Gv (pmX hpm))
  obtain ⟨adc, cc, ec, gc⟩ := ho.arrW (C := cx B0 old) en57_len
  subst ec
  repeat (first | refine Z0 ?_ | (refine ZR ?_; first | refine x1 ?_ | refine x2 ?_ | refine x8 ?_ | refine Z1 ?_ | refine Z2 ?_ | refine x3 fun _ => ?_ | refine x4 fun _ => ?_ | refine x5 fun _ => ?_ | refine Z3 fun _ => ?_ | refine Z4 fun _ => ?_) | refine ZC ?_)
  obtain ⟨xh, xs, xc, xm⟩ := x
  dsimp only at hb hL0 hL1 ho ⊢
  clear hback hB hai hx hpm hp hp2 hy
  by_cases hik : i = k
  · rw [show ((i : Int) == (k : Int)) = true by rw [hik]; exact beq_self_eq_true _]
    have hb2 : bestUp k sn i acc ⟨xh, xs, xc, xm⟩ = acc := if_pos hik
    rw [hb2] at hb
    repeat (first | refine Z0 ?_ | (refine ZR ?_; first | refine x1 ?_ | refine x2 ?_ | refine x8 ?_ | refine Z1 ?_ | refine Z2 ?_ | refine x3 fun _ => ?_ | refine x4 fun _ => ?_ | refine x5 fun _ => ?_ | refine Z3 fun _ => ?_ | refine Z4 fun _ => ?_) | refine ZC ?_)
    exact ⟨(i + 1, acc, w, Gr), ⟨by dsimp only; omega, hb, hw⟩, by dsimp only; omega, by repeat (first | exact SubL.nil | refine SubL.cons rfl ?_), by exact drop_auto⟩
  rw [show ((i : Int) == (k : Int)) = false by rw [beq_eq_false_iff_ne]; omega]
  cases xc with
  | none =>
    have hb2 : bestUp k sn i acc ⟨xh, xs, none, xm⟩ = acc := if_neg hik
    rw [hb2] at hb
    dsimp only [clL, List.length_nil] at ho ⊢
    repeat (first | refine Z0 ?_ | (refine ZR ?_; first | refine x1 ?_ | refine x2 ?_ | refine x8 ?_ | refine Z1 ?_ | refine Z2 ?_ | refine x3 fun _ => ?_ | refine x4 fun _ => ?_ | refine x5 fun _ => ?_ | refine Z3 fun _ => ?_ | refine Z4 fun _ => ?_) | refine ZC ?_)
    exact ⟨(i + 1, acc, w, Gr), ⟨by dsimp only; omega, hb, hw⟩, by dsimp only; omega, by repeat (first | exact SubL.nil | refine SubL.cons rfl ?_), by exact drop_auto⟩
  | some qf =>
    obtain ⟨q, f⟩ := qf
    dsimp only [clL, List.length_cons, List.length_nil] at ho gc ⊢
    have hC := (gc [] (Gr ++ (GA ++ (HB ++ H)))).arr en57_len
    clear gc
    have hc0 : ([⟨K5.bd, K5.mac, q, f⟩] : List C57)[0]? = some ⟨0, 5, q, f⟩ := rfl
    obtain ⟨b4, o4, e4, hL3⟩ := hC.ldF 22 2 hc0 rfl rfl rfl (sz rfl)
    obtain ⟨b5, o5, e5, hL4⟩ := hC.ldF 3 0 hc0 rfl rfl rfl (sz rfl)
    obtain ⟨b6, o6, e6, hL5⟩ := hC.ldF 25 1 hc0 rfl rfl rfl (sz rfl)
    subst e4
    cases e5
    cases e6
    dsimp only at hL3 hL4 hL5
    have ew0 : IntKind.u32.wrap (1 + (i : Int)) = 1 + (i : Int) := IntWalk.u32_in _ (by omega)
    cases acc with
    | none =>
      have hb2 : bestUp k sn i none ⟨xh, xs, some (q, f), xm⟩ = some ⟨0, 5, q, 1 + (i : Int), xs && sn⟩ := if_neg hik
      rw [hb2] at hb
      dsimp only [rivL, List.length_nil] at ew hw
      subst ew
      repeat (first | refine Z0 ?_ | (refine ZR ?_; first | refine x1 ?_ | refine x2 ?_ | refine x8 ?_ | refine Z1 ?_ | refine Z2 ?_ | refine x3 fun _ => ?_ | refine x4 fun _ => ?_ | refine x5 fun _ => ?_ | refine Z3 fun _ => ?_ | refine Z4 fun _ => ?_) | refine ZC ?_)
      refine ct_draw (masks := [0, 1, 3, 7, 15, 31, 63, 127, 15, 271, 783, 1807, 4095, 8191]) (plan := [0, 1, 2, 3, 4, 5, 6, 7, 8, 9, 10, 11, 12, 13]) (E := []) (by kernel_rfl) (by kernel_rfl) (by kernel_rfl) (by kernel_rfl) ?_
      repeat (first | refine Y0 ?_ | (refine YP ?_; first | refine y1 ?_ | refine y2 ?_ | refine Y1 ?_ | refine Y2 ?_))
      repeat (first | refine Z0 ?_ | (refine ZR ?_; first | refine x1 ?_ | refine x2 ?_ | refine x8 ?_ | refine Z1 ?_ | refine Z2 ?_ | refine x3 fun _ => ?_ | refine x4 fun _ => ?_ | refine x5 fun _ => ?_ | refine Z3 fun _ => ?_ | refine Z4 fun _ => ?_) | refine ZC ?_)
      cases xs
      · have hb : bestGo k sn (i + 1) (some ⟨0, 5, q, 1 + (i : Int), false⟩) (List.drop (i + 1) ls) = bestM ls k := hb
        refine ct_draw (masks := [0, 1, 3, 7, 0, 16, 48, 112, 0, 256, 768, 1792, 0, 4096, 12288, 0, 0, 98304, 229376, 491520, 1015808, 2064384, 2064384, 8355840, 16744448, 33521664, 67076096, 134217727, 268435455, 536870911]) (plan := [0, 1, 2, 3, 4, 5, 6, 7, 8, 9, 10, 11, 12, 13, 14, 15, 16, 17, 18, 19, 20, 21, 22, 23, 24, 25, 26, 27, 28, 29]) (E := []) (by kernel_rfl) (by kernel_rfl) (by kernel_rfl) (by kernel_rfl) ?_
        repeat (first | refine Y0 ?_ | (refine YP ?_; first | refine y1 ?_ | refine y2 ?_ | refine Y1 ?_ | refine Y2 ?_))
        refine pl_S rfl rfl rfl rfl rfl rfl (st_buildSlice rfl (zr rfl) rfl rfl rfl rfl rfl rfl fun bs => ⟨by exact rec_auto, ?_⟩)
        rw [ew0]
        repeat (first | refine Y0 ?_ | (refine YP ?_; first | refine y1 ?_ | refine y2 ?_ | refine Y1 ?_ | refine Y2 ?_))
        repeat (first | refine Z0 ?_ | (refine ZR ?_; first | refine x1 ?_ | refine x2 ?_ | refine x8 ?_ | refine Z1 ?_ | refine Z2 ?_ | refine x3 fun _ => ?_ | refine x4 fun _ => ?_ | refine x5 fun _ => ?_ | refine Z3 fun _ => ?_ | refine Z4 fun _ => ?_) | refine ZC ?_)
        exact ⟨(i + 1, some ⟨0, 5, q, 1 + (i : Int), false⟩, _, _), ⟨by dsimp only; omega, hb, Own.fix [(⟨0, 5, q, 1 + (i : Int), false⟩ : S27)] bs 5 (show 1 < EL by decide)⟩, by dsimp only; omega, by repeat (first | exact SubL.nil | refine SubL.cons rfl ?_), by exact drop_auto⟩
      · have hb : bestGo k sn (i + 1) (some ⟨0, 5, q, 1 + (i : Int), sn⟩) (List.drop (i + 1) ls) = bestM ls k := hb
        refine ct_draw (masks := [0, 1, 3, 7, 0, 16, 48, 112, 0, 256, 768, 1792, 0, 4096, 12288, 0, 0, 98304, 229376, 491520, 1015808, 2064384, 2064384, 8355840, 16744448, 33521664, 67076096, 134217727, 268435455, 536870911]) (plan := [0, 1, 2, 3, 4, 5, 6, 7, 8, 9, 10, 11, 12, 13, 14, 15, 16, 17, 18, 19, 20, 21, 22, 23, 24, 25, 26, 27, 28, 29]) (E := []) (by kernel_rfl) (by kernel_rfl) (by kernel_rfl) (by kernel_rfl) ?_
        repeat (first | refine Y0 ?_ | (refine YP ?_; first | refine y1 ?_ | refine y2 ?_ | refine Y1 ?_ | refine Y2 ?_))
        refine pl_S rfl rfl rfl rfl rfl rfl (st_buildSlice rfl (zr rfl) rfl rfl rfl rfl rfl rfl fun bs => ⟨by exact rec_auto, ?_⟩)
        rw [ew0]
        repeat (first | refine Y0 ?_ | (refine YP ?_; first | refine y1 ?_ | refine y2 ?_ | refine Y1 ?_ | refine Y2 ?_))
        repeat (first | refine Z0 ?_ | (refine ZR ?_; first | refine x1 ?_ | refine x2 ?_ | refine x8 ?_ | refine Z1 ?_ | refine Z2 ?_ | refine x3 fun _ => ?_ | refine x4 fun _ => ?_ | refine x5 fun _ => ?_ | refine Z3 fun _ => ?_ | refine Z4 fun _ => ?_) | refine ZC ?_)
        exact ⟨(i + 1, some ⟨0, 5, q, 1 + (i : Int), sn⟩, _, _), ⟨by dsimp only; omega, hb, Own.fix [(⟨0, 5, q, 1 + (i : Int), sn⟩ : S27)] bs 5 (show 1 < EL by decide)⟩, by dsimp only; omega, by repeat (first | exact SubL.nil | refine SubL.cons rfl ?_), by exact drop_auto⟩
    | some a =>
      have hb2 : bestUp k sn i (some a) ⟨xh, xs, some (q, f), xm⟩ = if q > a.a2 then some ⟨0, 5, q, 1 + (i : Int), xs && sn⟩ else some a := if_neg hik
      rw [hb2] at hb
      dsimp only [rivL, List.length_cons, List.length_nil] at ew gw hw
      subst ew
      clear hL0
      obtain ⟨b7, o7, e7, hL0⟩ := (((gw [] (GA ++ (HB ++ H))).arr en27_len).weak (List.sublist_append_right Gv _)).ldF 22 2 (a := a) (i := 0) rfl rfl rfl rfl (sz rfl)
      subst e7
      repeat (first | refine Z0 ?_ | (refine ZR ?_; first | refine x1 ?_ | refine x2 ?_ | refine x8 ?_ | refine Z1 ?_ | refine Z2 ?_ | refine x3 fun _ => ?_ | refine x4 fun _ => ?_ | refine x5 fun _ => ?_ | refine Z3 fun _ => ?_ | refine Z4 fun _ => ?_) | refine ZC ?_)
      refine ct_draw (masks := [0, 1, 3, 7, 15, 31, 63, 127, 15, 271, 783, 1807, 4095, 8191]) (plan := [0, 1, 2, 3, 4, 5, 6, 7, 8, 9, 10, 11, 12, 13]) (E := []) (by kernel_rfl) (by kernel_rfl) (by kernel_rfl) (by kernel_rfl) ?_
      repeat (first | refine Y0 ?_ | (refine YP ?_; first | refine y1 ?_ | refine y2 ?_ | refine Y1 ?_ | refine Y2 ?_))
      repeat (first | refine Z0 ?_ | (refine ZR ?_; first | refine x1 ?_ | refine x2 ?_ | refine x8 ?_ | refine Z1 ?_ | refine Z2 ?_ | refine x3 fun _ => ?_ | refine x4 fun _ => ?_ | refine x5 fun _ => ?_ | refine Z3 fun _ => ?_ | refine Z4 fun _ => ?_) | refine ZC ?_)
      refine ct_condT te_d rfl (fun hq => ?_) (fun hq => ?_)
      · rw [if_pos hq] at hb
        cases xs
        · have hb : bestGo k sn (i + 1) (some ⟨0, 5, q, 1 + (i : Int), false⟩) (List.drop (i + 1) ls) = bestM ls k := hb
          refine ct_draw (masks := [0, 1, 3, 7, 0, 16, 48, 112, 0, 256, 768, 1792, 0, 4096, 12288, 0, 0, 98304, 229376, 491520, 1015808, 2064384, 2064384, 8355840, 16744448, 33521664, 67076096, 134217727, 268435455, 536870911]) (plan := [0, 1, 2, 3, 4, 5, 6, 7, 8, 9, 10, 11, 12, 13, 14, 15, 16, 17, 18, 19, 20, 21, 22, 23, 24, 25, 26, 27, 28, 29]) (E := []) (by kernel_rfl) (by kernel_rfl) (by kernel_rfl) (by kernel_rfl) ?_
          repeat (first | refine Y0 ?_ | (refine YP ?_; first | refine y1 ?_ | refine y2 ?_ | refine Y1 ?_ | refine Y2 ?_))
          refine pl_S rfl rfl rfl rfl rfl rfl (st_buildSlice rfl (zr rfl) rfl rfl rfl rfl rfl rfl fun bs => ⟨by exact rec_auto, ?_⟩)
          rw [ew0]
          repeat (first | refine Y0 ?_ | (refine YP ?_; first | refine y1 ?_ | refine y2 ?_ | refine Y1 ?_ | refine Y2 ?_))
          repeat (first | refine Z0 ?_ | (refine ZR ?_; first | refine x1 ?_ | refine x2 ?_ | refine x8 ?_ | refine Z1 ?_ | refine Z2 ?_ | refine x3 fun _ => ?_ | refine x4 fun _ => ?_ | refine x5 fun _ => ?_ | refine Z3 fun _ => ?_ | refine Z4 fun _ => ?_) | refine ZC ?_)
          exact ⟨(i + 1, some ⟨0, 5, q, 1 + (i : Int), false⟩, _, _), ⟨by dsimp only; omega, hb, Own.fix [(⟨0, 5, q, 1 + (i : Int), false⟩ : S27)] bs 5 (show 1 < EL by decide)⟩, by dsimp only; omega, by repeat (first | exact SubL.nil | refine SubL.cons rfl ?_), by exact drop_auto⟩
        · have hb : bestGo k sn (i + 1) (some ⟨0, 5, q, 1 + (i : Int), sn⟩) (List.drop (i + 1) ls) = bestM ls k := hb
          refine ct_draw (masks := [0, 1, 3, 7, 0, 16, 48, 112, 0, 256, 768, 1792, 0, 4096, 12288, 0, 0, 98304, 229376, 491520, 1015808, 2064384, 2064384, 8355840, 16744448, 33521664, 67076096, 134217727, 268435455, 536870911]) (plan := [0, 1, 2, 3, 4, 5, 6, 7, 8, 9, 10, 11, 12, 13, 14, 15, 16, 17, 18, 19, 20, 21, 22, 23, 24, 25, 26, 27, 28, 29]) (E := []) (by kernel_rfl) (by kernel_rfl) (by kernel_rfl) (by kernel_rfl) ?_
          repeat (first | refine Y0 ?_ | (refine YP ?_; first | refine y1 ?_ | refine y2 ?_ | refine Y1 ?_ | refine Y2 ?_))
          refine pl_S rfl rfl rfl rfl rfl rfl (st_buildSlice rfl (zr rfl) rfl rfl rfl rfl rfl rfl fun bs => ⟨by exact rec_auto, ?_⟩)
          rw [ew0]
          repeat (first | refine Y0 ?_ | (refine YP ?_; first | refine y1 ?_ | refine y2 ?_ | refine Y1 ?_ | refine Y2 ?_))
          repeat (first | refine Z0 ?_ | (refine ZR ?_; first | refine x1 ?_ | refine x2 ?_ | refine x8 ?_ | refine Z1 ?_ | refine Z2 ?_ | refine x3 fun _ => ?_ | refine x4 fun _ => ?_ | refine x5 fun _ => ?_ | refine Z3 fun _ => ?_ | refine Z4 fun _ => ?_) | refine ZC ?_)
          exact ⟨(i + 1, some ⟨0, 5, q, 1 + (i : Int), sn⟩, _, _), ⟨by dsimp only; omega, hb, Own.fix [(⟨0, 5, q, 1 + (i : Int), sn⟩ : S27)] bs 5 (show 1 < EL by decide)⟩, by dsimp only; omega, by repeat (first | exact SubL.nil | refine SubL.cons rfl ?_), by exact drop_auto⟩
      · rw [if_neg hq] at hb
        repeat (first | refine Z0 ?_ | (refine ZR ?_; first | refine x1 ?_ | refine x2 ?_ | refine x8 ?_ | refine Z1 ?_ | refine Z2 ?_ | refine x3 fun _ => ?_ | refine x4 fun _ => ?_ | refine x5 fun _ => ?_ | refine Z3 fun _ => ?_ | refine Z4 fun _ => ?_) | refine ZC ?_)
        exact ⟨(i + 1, some a, _, Gr), ⟨by dsimp only; omega, hb, hw⟩, by dsimp only; omega, by repeat (first | exact SubL.nil | refine SubL.cons rfl ?_), by exact drop_auto⟩
end
end Go.Proofs.Ytoimfchhmocgeaa.Abs

/- Five leaves settle in rounds. -/
namespace Go.Proofs.Ytoimfchhmocgeaa.Abs
open Go
set_option linter.unusedVariables false
theorem best_key (k : Nat) (sn : Bool) : ∀ (ls : List Lf) (i : Nat) (acc : Option S27), (∀ r, acc = some r → kR r = K5) → ∀ r, bestGo k sn i acc ls = some r → kR r = K5
  | [], _, acc, h, r, e => h r e
  | x :: t, i, acc, h, r, e => by
    unfold bestGo at e
    refine best_key k sn t (i + 1) _ (fun r' e' => ?_) r e
    unfold bestUp at e'
    split at e'
    · exact h r' e'
    · split at e'
      · exact h r' e'
      · split at e'
        · cases e'; rfl
        · split at e'
          · cases e'; rfl
          · exact h r' e'
theorem bestM_key (ls : List Lf) (k : Nat) (r : S27) (e : bestM ls k = some r) : kR r = K5 := best_key k _ ls 0 none (fun _ h => by cases h) r e
theorem goL_roll (now : Int) (j : Nat) (ls : List Lf) (h : j < 5) : goL now (5 - j) j ls = goL now (5 - (j + 1)) (j + 1) (stepL now ls j) := by
  have : 5 - j = (5 - (j + 1)) + 1 := by omega
  rw [this]
  rfl
section
variable {B0 : Nat} {old : Nat → Option (List Value)} {n m : Nat} {H GA HB : Hp} {Q : Value → Hp → Prop} {ps : List Nat} {v : Value} {last : Int} {ls : List Lf}
set_option maxRecDepth 10000
set_option maxHeartbeats 16000000
theorem LvI.mono {m' : Nat} {last' : Int} (h : LvI ps v last m ls GA HB) (h1 : last ≤ last') (h2 : m ≤ m') : LvI ps v last' m' ls GA HB := ⟨h.own, h.bks.mono h1, h.len, fun x hx => Nat.le_trans (h.bd x hx) h2⟩
theorem pmY {N R A B X G H : Hp} (hp : B.Perm (G ++ X)) : (G ++ (R ++ (N ++ (A ++ (X ++ H))))).Perm (R ++ (N ++ (A ++ (B ++ H)))) := by
  have h1 := pmX (A := N) (B := A) (H := H) hp
  exact (List.perm_append_comm_assoc G R _).trans (List.Perm.append_left R h1.symm)
theorem pmZ {A B N H : Hp} : (A ++ (B ++ (N ++ H))).Perm (N ++ (A ++ (B ++ H))) := (List.Perm.append_left A (List.perm_append_comm_assoc B N H)).trans (List.perm_append_comm_assoc A N _)
theorem pmW {V R N A B H : Hp} : (A ++ (B ++ (V ++ (R ++ (N ++ H))))).Perm (V ++ (R ++ (N ++ (A ++ (B ++ H))))) :=
  (pmZ (A := A) (B := B) (N := V)).trans (List.Perm.append_left V ((pmZ (A := A) (B := B) (N := R)).trans (List.Perm.append_left R (pmZ (A := A) (B := B) (N := N)))))
theorem rounds29_ct (hL : LvI ps v last m ls GA HB) (many : Nat) (now : Int) (hnow : last ≤ now ∧ 0 ≤ now ∧ now ≤ 1099511627776) (hm : m + 5 * many ≤ 1990) (hQ : ∀ GA' HB', LvI ps v now (m + 5 * many) (roundsL now many ls) GA' HB' → Q (.bool true) (GA' ++ (HB' ++ H))) :
    CallT (cx B0 old) (acall (cx B0 old) ansP (n + 2018)) 29 [v, .int .i64 (many : Int), .int .i64 now] (GA ++ (HB ++ H)) Q := by
  refine call_in3 62 rfl Try.func29 rfl rfl ?_
  have hL := hL.mono hnow.1 (Nat.le_refl _)
  repeat (first | refine Z0 ?_ | (refine ZR ?_; first | refine x1 ?_ | refine x2 ?_ | refine x8 ?_ | refine Z1 ?_ | refine Z2 ?_ | refine x3 fun _ => ?_ | refine x4 fun _ => ?_ | refine x5 fun _ => ?_ | refine Z3 fun _ => ?_ | refine Z4 fun _ => ?_) | refine ZC ?_)
  refine loop_ind (ι := Nat × List Lf × Hp × Hp) (0, ls, GA, HB) (fun j => many - j.1) (fun j => j.1 ≤ many ∧ LvI ps v now (m + 5 * j.1) j.2.1 j.2.2.1 j.2.2.2 ∧ roundsL now (many - j.1) j.2.1 = roundsL now many ls)
    (fun j => [(7, .int .i64 (j.1 : Int)), (0, v), (1, .int .i64 (many : Int)), (2, .int .i64 now)]) (fun j => j.2.2.1 ++ (j.2.2.2 ++ H)) ⟨Nat.zero_le _, hL, rfl⟩ (by repeat (first | exact SubL.nil | refine SubL.cons rfl ?_)) (List.Sublist.refl _) ?_
  clear hL
  rintro ⟨k, ls1, GA1, HB1⟩ ⟨hk, hL, hr⟩
  dsimp only at hk hL hr ⊢
  repeat (first | refine Z0 ?_ | (refine ZR ?_; first | refine x1 ?_ | refine x2 ?_ | refine x8 ?_ | refine Z1 ?_ | refine Z2 ?_ | refine x3 fun _ => ?_ | refine x4 fun _ => ?_ | refine x5 fun _ => ?_ | refine Z3 fun _ => ?_ | refine Z4 fun _ => ?_) | refine ZC ?_)
  refine ct_condT te_d rfl (fun hlt => ?_) (fun hlt => ?_)
  rotate_left
  · obtain rfl : k = many := by omega
    rw [Nat.sub_self] at hr
    have hr : ls1 = roundsL now k ls := hr
    rw [hr] at hL
    repeat (first | refine Z0 ?_ | (refine ZR ?_; first | refine x1 ?_ | refine x2 ?_ | refine x8 ?_ | refine Z1 ?_ | refine Z2 ?_ | refine x3 fun _ => ?_ | refine x4 fun _ => ?_ | refine x5 fun _ => ?_ | refine Z3 fun _ => ?_ | refine Z4 fun _ => ?_) | refine ZC ?_)
    exact re_1 rfl rfl (List.Sublist.refl _) (hQ _ _ hL)
  have hkm : k < many := by omega
  have hr2 : roundsL now (many - (k + 1)) (goL now 5 0 ls1) = roundsL now many ls := by
    rw [← hr, show many - k = (many - (k + 1)) + 1 by omega]
    show _ = roundsL now (many - (k + 1)) (goL now ls1.length 0 ls1)
    rw [hL.len]
  clear hr
  repeat (first | refine Z0 ?_ | (refine ZR ?_; first | refine x1 ?_ | refine x2 ?_ | refine x8 ?_ | refine Z1 ?_ | refine Z2 ?_ | refine x3 fun _ => ?_ | refine x4 fun _ => ?_ | refine x5 fun _ => ?_ | refine Z3 fun _ => ?_ | refine Z4 fun _ => ?_) | refine ZC ?_)
  refine loop_ind (ι := Nat × List Lf × Hp × Hp) (0, ls1, GA1, HB1) (fun j => 5 - j.1) (fun j => j.1 ≤ 5 ∧ LvI ps v now (m + 5 * k + j.1) j.2.1 j.2.2.1 j.2.2.2 ∧ goL now (5 - j.1) j.1 j.2.1 = goL now 5 0 ls1)
    (fun j => [(8, .int .i64 (j.1 : Int)), (7, .int .i64 (k : Int)), (0, v), (1, .int .i64 (many : Int)), (2, .int .i64 now)]) (fun j => j.2.2.1 ++ (j.2.2.2 ++ H)) ⟨Nat.zero_le _, hL, rfl⟩ (by repeat (first | exact SubL.nil | refine SubL.cons rfl ?_)) (List.Sublist.refl _) ?_
  clear hL
  rintro ⟨j, ls2, GA2, HB2⟩ ⟨hj, hL, hg⟩
  dsimp only at hj hL hg ⊢
  have hal := hL.alen
  obtain ⟨ad, c, e, ga⟩ := hL.own.arrW (C := cx B0 old) enLf_len
  rw [hal] at e
  subst e
  have hA : Arr (cx B0 old) (GA2 ++ (HB2 ++ H)) ad 3 enLf (lvA ps ls2) := (ga [] (HB2 ++ H)).arr enLf_len
  repeat (first | refine Z0 ?_ | (refine ZR ?_; first | refine x1 ?_ | refine x2 ?_ | refine x8 ?_ | refine Z1 ?_ | refine Z2 ?_ | refine x3 fun _ => ?_ | refine x4 fun _ => ?_ | refine x5 fun _ => ?_ | refine Z3 fun _ => ?_ | refine Z4 fun _ => ?_) | refine ZC ?_)
  rw [show ((5 : Nat) : Int) = 5 from rfl]
  refine ct_condT te_d rfl (fun hj5 => ?_) (fun hj5 => ?_)
  rotate_left
  · obtain rfl : j = 5 := by omega
    have hg : ls2 = goL now 5 0 ls1 := hg
    rw [← hg] at hr2
    repeat (first | refine Z0 ?_ | (refine ZR ?_; first | refine x1 ?_ | refine x2 ?_ | refine x8 ?_ | refine Z1 ?_ | refine Z2 ?_ | refine x3 fun _ => ?_ | refine x4 fun _ => ?_ | refine x5 fun _ => ?_ | refine Z3 fun _ => ?_ | refine Z4 fun _ => ?_) | refine ZC ?_)
    exact ⟨(k + 1, ls2, GA2, HB2), ⟨by dsimp only; omega, hL.mono (Int.le_refl _) (by omega), hr2⟩, by dsimp only; omega, by repeat (first | exact SubL.nil | refine SubL.cons rfl ?_), by exact drop_auto⟩
  have hj4 : j < 5 := by omega
  rw [goL_roll now j ls2 hj4] at hg
  have hlen := hL.len
  obtain ⟨x, hx⟩ : ∃ x, ls2[j]? = some x := ⟨_, List.getElem?_eq_getElem (by omega)⟩
  obtain ⟨p, Gi, R, l, hp, hpm, hl, hB, hback⟩ := hL.bks.at hx
  have hai := lvA_get hp hx
  obtain ⟨b1, o1, e1, hL0⟩ := hA.ldF 33 0 hai rfl rfl rfl (sz rfl)
  obtain ⟨b2, o2, e2, hL1⟩ := hA.ldF 4 1 hai rfl rfl rfl (sz rfl)
  subst e1
  cases e2
  dsimp only at hL0 hL1
  have hbd := hL.bd x (List.mem_iff_getElem?.2 ⟨j, hx⟩)
  have hst : stepL now ls2 j = ls2.set j (setLf now j (bestM ls2 j) x) := by unfold stepL; rw [hx]
  rw [hst] at hg
  clear hst
  repeat (first | refine Z0 ?_ | (refine ZR ?_; first | refine x1 ?_ | refine x2 ?_ | refine x8 ?_ | refine Z1 ?_ | refine Z2 ?_ | refine x3 fun _ => ?_ | refine x4 fun _ => ?_ | refine x5 fun _ => ?_ | refine Z3 fun _ => ?_ | refine Z4 fun _ => ?_) | refine ZC ?_)
  refine ct_midE (ι := Value × Hp) (fun t => Own en59 6 (nearL n5 x.has) t.1 t.2) (fun t => [(9, t.1), (8, .int .i64 (j : Int)), (7, .int .i64 (k : Int)), (0, .slice (some ⟨b1, o1, none⟩) 5 c), (1, .int .i64 (many : Int)), (2, .int .i64 now)]) (fun t => t.2 ++ (GA2 ++ (HB2 ++ H))) ?_ ?_
  · cases hh : x.has with
    | false =>
      repeat (first | refine Z0 ?_ | (refine ZR ?_; first | refine x1 ?_ | refine x2 ?_ | refine x8 ?_ | refine Z1 ?_ | refine Z2 ?_ | refine x3 fun _ => ?_ | refine x4 fun _ => ?_ | refine x5 fun _ => ?_ | refine Z3 fun _ => ?_ | refine Z4 fun _ => ?_) | refine ZC ?_)
      exact ⟨(_, []), Own.nil, by repeat (first | exact SubL.nil | refine SubL.cons rfl ?_), by exact drop_auto⟩
    | true =>
      repeat (first | refine Z0 ?_ | (refine ZR ?_; first | refine x1 ?_ | refine x2 ?_ | refine x8 ?_ | refine Z1 ?_ | refine Z2 ?_ | refine x3 fun _ => ?_ | refine x4 fun _ => ?_ | refine x5 fun _ => ?_ | refine Z3 fun _ => ?_ | refine Z4 fun _ => ?_) | refine ZC ?_)
      refine rt_step rfl rfl rfl (st_call rfl rfl rfl rfl (one23_ct fun bn => ?_))
      repeat (first | refine Z0 ?_ | (refine ZR ?_; first | refine x1 ?_ | refine x2 ?_ | refine x8 ?_ | refine Z1 ?_ | refine Z2 ?_ | refine x3 fun _ => ?_ | refine x4 fun _ => ?_ | refine x5 fun _ => ?_ | refine Z3 fun _ => ?_ | refine Z4 fun _ => ?_) | refine ZC ?_)
      exact ⟨(_, [_]), Own.fix [n5] bn 6 (show 1 < EL by decide), by repeat (first | exact SubL.nil | refine SubL.cons rfl ?_), by exact drop_auto⟩
  rintro ⟨vn, Gn⟩ hn
  dsimp only at hn ⊢
  obtain ⟨adn, cn, en, gn⟩ := hn.arrW (C := cx B0 old) en59_len
  subst en
  have ew : IntKind.u32.wrap (1 + (j : Int)) = 1 + (j : Int) := IntWalk.u32_in _ (by omega)
  repeat (first | refine Z0 ?_ | (refine ZR ?_; first | refine x1 ?_ | refine x2 ?_ | refine x8 ?_ | refine Z1 ?_ | refine Z2 ?_ | refine x3 fun _ => ?_ | refine x4 fun _ => ?_ | refine x5 fun _ => ?_ | refine Z3 fun _ => ?_ | refine Z4 fun _ => ?_) | refine ZC ?_)
  refine ct_draw (masks := [0, 0, 3, 7, 15, 0, 32, 96, 0, 0, 0, 1536, 0, 8191, 16383, 32767, 32767, 65535, 262143]) (plan := [0, 1, 2, 3, 4, 5, 6, 7, 8, 9, 10, 12, 11, 13, 14, 15, 16, 17, 18]) (E := []) (by kernel_rfl) (by kernel_rfl) (by kernel_rfl) (by kernel_rfl) ?_
  repeat (first | refine Y0 ?_ | (refine YP ?_; first | refine y1 ?_ | refine y2 ?_ | refine Y1 ?_ | refine Y2 ?_))
  rw [ew]
  clear ew
  refine pl_S rfl rfl rfl rfl rfl rfl (st_call rfl rfl rfl rfl (CallT.perm (best54_ct (n := n) (H := Gn ++ H) hL j hj4 fun w Gr hw => ⟨by exact rec_auto, ?_⟩) pmZ))
  refine PlanT.perm ?_ (List.Perm.append_left Gr pmZ.symm)
  have hkey := bestM_key ls2 j
  generalize bestM ls2 j = rv at *
  obtain ⟨adw, cw, ew, gw⟩ := hw.arrW (C := cx B0 old) en27_len
  subst ew
  repeat (first | refine Y0 ?_ | (refine YP ?_; first | refine y1 ?_ | refine y2 ?_ | refine Y1 ?_ | refine Y2 ?_))
  refine pl_S rfl rfl rfl rfl rfl rfl (st_call rfl rfl rfl rfl (CallT.perm (settleW (n := n + 2009) (H := Gr ++ (Gn ++ (GA2 ++ (R ++ H)))) hB (by omega) (1 + (j : Int)) now (by unfold chkT; rw [if_neg (by omega), if_neg (by omega)]) (by decide) x.has n5 rfl rv hkey ((gn Gr (GA2 ++ (R ++ H))).arr en59_len) ((gw [] (Gn ++ (GA2 ++ (R ++ H)))).arr en27_len) fun v' Gv G' ho hB' => ⟨by exact rec_auto, ?_⟩) (pmY hpm.symm.symm)))
  have hsl := settle_len 100 10000 (1 + (j : Int)) now x.cl x.mv x.has rv
  have hsf : setLf now j rv x = ⟨x.has && !(settleB 100 10000 (1 + (j : Int)) now x.cl x.mv x.has rv).2.2, x.same, (settleB 100 10000 (1 + (j : Int)) now x.cl x.mv x.has rv).1, (settleB 100 10000 (1 + (j : Int)) now x.cl x.mv x.has rv).2.1⟩ := rfl
  rw [hsf] at hg
  clear hsf gn gw hw hn hkey hB
  generalize settleB 100 10000 (1 + (j : Int)) now x.cl x.mv x.has rv = RS at *
  obtain ⟨cl', mv', g⟩ := RS
  dsimp only at ho hB' hsl hg ⊢
  obtain ⟨HB', hp', hbks⟩ := hback now ⟨x.has && !g, x.same, cl', mv'⟩ now G' (Int.le_refl _) ⟨by omega, Int.le_refl _⟩ hB'
  refine PlanT.perm ?_ (pmW.trans (List.Perm.append_left Gv (pmY hp'.symm).symm))
  obtain ⟨adv, cv, ev, _⟩ := ho.arrW (C := cx B0 old) en59_len
  subst ev
  obtain ⟨GA', oA, bb, cb, eb, hstA⟩ := hL.own.set (C := cx B0 old) (t := 4) (f := 1) (a' := (p, x.has && !g, x.same)) (u := .bool (x.has && !g)) enLf_len hai (sz rfl) rfl rfl
  rw [hal] at eb
  cases eb
  clear hL1
  have hA9 : Arr (cx B0 old) (GA2 ++ H) (some ⟨b1, 0, none⟩) 3 enLf (lvA ps ls2) := (ga [] H).arr enLf_len
  obtain ⟨b9, o9, e9, hL1⟩ := hA9.ldF 4 1 hai rfl rfl rfl (sz rfl)
  cases e9
  dsimp only at hL1
  have hset := lvA_set (ls := ls2) ⟨x.has && !g, x.same, cl', mv'⟩ hp
  rw [← hset] at oA
  have hnew : LvI ps (.slice (some ⟨b1, 0, none⟩) 5 c) now (m + 5 * k + (j + 1)) (ls2.set j ⟨x.has && !g, x.same, cl', mv'⟩) GA' HB' := ⟨oA, hbks, by rw [List.length_set]; exact hL.len, fun y hy => by
    rcases List.mem_or_eq_of_mem_set hy with h | rfl
    · exact Nat.le_trans (hL.bd y h) (by omega)
    · dsimp only; omega⟩
  clear hback hpm hp' hL hai hB' hbks ho oA hset hx
  cases hxh : x.has with
  | false =>
    rw [hxh] at hL1 hstA hnew hg
    have hstA : ∀ pre H0, StP (cx B0 old) 4 b1 (0 + j * 3 + 1) (.bool false) (pre ++ (GA2 ++ H0)) (pre ++ (GA' ++ H0)) := hstA
    repeat (first | refine Y0 ?_ | (refine YP ?_; first | refine y1 ?_ | refine y2 ?_ | refine Y1 ?_ | refine Y2 ?_))
    repeat (first | refine Z0 ?_ | (refine ZR ?_; first | refine x1 ?_ | refine x2 ?_ | refine x8 ?_ | refine Z1 ?_ | refine Z2 ?_ | refine x3 fun _ => ?_ | refine x4 fun _ => ?_ | refine x5 fun _ => ?_ | refine Z3 fun _ => ?_ | refine Z4 fun _ => ?_) | refine ZC ?_)
    refine rt_st rfl rfl rfl rfl rfl (hstA [] _) ?_
    repeat (first | refine Z0 ?_ | (refine ZR ?_; first | refine x1 ?_ | refine x2 ?_ | refine x8 ?_ | refine Z1 ?_ | refine Z2 ?_ | refine x3 fun _ => ?_ | refine x4 fun _ => ?_ | refine x5 fun _ => ?_ | refine Z3 fun _ => ?_ | refine Z4 fun _ => ?_) | refine ZC ?_)
    exact ⟨(j + 1, _, GA', HB'), ⟨by dsimp only; omega, hnew, hg⟩, by dsimp only; omega, by repeat (first | exact SubL.nil | refine SubL.cons rfl ?_), by exact drop_auto⟩
  | true =>
    rw [hxh] at hL1 hstA hnew hg
    cases g with
    | false =>
      have hstA : ∀ pre H0, StP (cx B0 old) 4 b1 (0 + j * 3 + 1) (.bool true) (pre ++ (GA2 ++ H0)) (pre ++ (GA' ++ H0)) := hstA
      dsimp only [nearL, List.length_nil]
      repeat (first | refine Y0 ?_ | (refine YP ?_; first | refine y1 ?_ | refine y2 ?_ | refine Y1 ?_ | refine Y2 ?_))
      repeat (first | refine Z0 ?_ | (refine ZR ?_; first | refine x1 ?_ | refine x2 ?_ | refine x8 ?_ | refine Z1 ?_ | refine Z2 ?_ | refine x3 fun _ => ?_ | refine x4 fun _ => ?_ | refine x5 fun _ => ?_ | refine Z3 fun _ => ?_ | refine Z4 fun _ => ?_) | refine ZC ?_)
      refine rt_st rfl rfl rfl rfl rfl (hstA [] _) ?_
      repeat (first | refine Z0 ?_ | (refine ZR ?_; first | refine x1 ?_ | refine x2 ?_ | refine x8 ?_ | refine Z1 ?_ | refine Z2 ?_ | refine x3 fun _ => ?_ | refine x4 fun _ => ?_ | refine x5 fun _ => ?_ | refine Z3 fun _ => ?_ | refine Z4 fun _ => ?_) | refine ZC ?_)
      exact ⟨(j + 1, _, GA', HB'), ⟨by dsimp only; omega, hnew, hg⟩, by dsimp only; omega, by repeat (first | exact SubL.nil | refine SubL.cons rfl ?_), by exact drop_auto⟩
    | true =>
      have hstA : ∀ pre H0, StP (cx B0 old) 4 b1 (0 + j * 3 + 1) (.bool false) (pre ++ (GA2 ++ H0)) (pre ++ (GA' ++ H0)) := hstA
      dsimp only [nearL, List.length_cons, List.length_nil]
      repeat (first | refine Y0 ?_ | (refine YP ?_; first | refine y1 ?_ | refine y2 ?_ | refine Y1 ?_ | refine Y2 ?_))
      repeat (first | refine Z0 ?_ | (refine ZR ?_; first | refine x1 ?_ | refine x2 ?_ | refine x8 ?_ | refine Z1 ?_ | refine Z2 ?_ | refine x3 fun _ => ?_ | refine x4 fun _ => ?_ | refine x5 fun _ => ?_ | refine Z3 fun _ => ?_ | refine Z4 fun _ => ?_) | refine ZC ?_)
      refine rt_st rfl rfl rfl rfl rfl (hstA [] _) ?_
      repeat (first | refine Z0 ?_ | (refine ZR ?_; first | refine x1 ?_ | refine x2 ?_ | refine x8 ?_ | refine Z1 ?_ | refine Z2 ?_ | refine x3 fun _ => ?_ | refine x4 fun _ => ?_ | refine x5 fun _ => ?_ | refine Z3 fun _ => ?_ | refine Z4 fun _ => ?_) | refine ZC ?_)
      exact ⟨(j + 1, _, GA', HB'), ⟨by dsimp only; omega, hnew, hg⟩, by dsimp only; omega, by repeat (first | exact SubL.nil | refine SubL.cons rfl ?_), by exact drop_auto⟩
end
end Go.Proofs.Ytoimfchhmocgeaa.Abs

/- The contract of the statement MobilityMeets. -/
namespace Go.Proofs.Ytoimfchhmocgeaa.Abs
open Go
set_option linter.unusedVariables false
def lf0 : Lf := ⟨false, false, none, none⟩
theorem lvA_app : ∀ {ps : List Nat} {ls : List Lf} (p : Nat) (x : Lf), ps.length = ls.length → lvA (ps ++ [p]) (ls ++ [x]) = lvA ps ls ++ [(p, x.has, x.same)]
  | [], [], p, x, _ => rfl
  | [], _ :: _, _, _, h => by cases h
  | _ :: _, [], _, _, h => by cases h
  | a :: t, y :: r, p, x, h => congrArg (_ :: ·) (lvA_app p x (Nat.succ.inj h))
theorem BksI.app {last : Int} : ∀ {ps : List Nat} {ls : List Lf} {HB : Hp} {p : Nat} {x : Lf} {G : Hp} {l : Int}, BksI last ps ls HB → (0 ≤ l ∧ l ≤ last) → BkI 100 10000 K5 p l x.cl x.mv G → BksI last (ps ++ [p]) (ls ++ [x]) (HB ++ G)
  | [], [], HB, p, x, G, l, e, hl, hB => by
    have e : HB = [] := e
    subst e
    exact ⟨G, [], l, by simp, hl, hB, rfl⟩
  | a :: t, y :: r, HB, p, x, G, l, ⟨G1, HR, l1, e, h1, h2, h3⟩, hl, hB => ⟨G1, HR ++ G, l1, by rw [e, List.append_assoc], h1, h2, BksI.app h3 hl hB⟩
  | [], _ :: _, _, _, _, _, _, e, _, _ => e.elim
  | _ :: _, [], _, _, _, _, _, e, _, _ => e.elim
theorem BksI.flags {last : Int} : ∀ {ps : List Nat} {ls : List Lf} {HB : Hp} {i : Nat} {x : Lf} (a b : Bool), BksI last ps ls HB → ls[i]? = some x → BksI last ps (ls.set i ⟨a, b, x.cl, x.mv⟩) HB
  | [], [], HB, i, x, _, _, e, h => by cases i <;> cases h
  | p :: t, y :: r, HB, 0, x, a, b, ⟨G, HR, l, e, h1, h2, h3⟩, h => by cases h; exact ⟨G, HR, l, e, h1, h2, h3⟩
  | p :: t, y :: r, HB, i + 1, x, a, b, ⟨G, HR, l, e, h1, h2, h3⟩, h => ⟨G, HR, l, e, h1, h2, BksI.flags a b h3 h⟩
  | [], _ :: _, _, _, _, _, _, e, _ => e.elim
  | _ :: _, [], _, _, _, _, _, e, _ => e.elim
theorem pmV {B HB G R H : Hp} (hp : HB.Perm (G ++ R)) : (B ++ (HB ++ H)).Perm (G ++ (B ++ (R ++ H))) := pmX (A := []) hp
theorem relS0 : RelS 0 0 (List.replicate 5 lf0) (stO none) := by
  have h : RelL 0 0 lf0 eO := ⟨rfl, rfl, rfl, rfl, Nat.le_refl _⟩
  exact ⟨h, h, h, h, h, trivial⟩
section
variable {B0 : Nat} {old : Nat → Option (List Value)} {n m : Nat} {H GA HB : Hp} {Q : Value → Hp → Prop} {ps : List Nat} {v : Value} {last : Int} {ls : List Lf}
set_option maxRecDepth 10000
set_option maxHeartbeats 16000000
theorem leaves28_ct (hQ : ∀ ps v GA HB, LvI ps v 0 0 (List.replicate 5 lf0) GA HB → Q v (GA ++ (HB ++ H))) : CallT (cx B0 old) (acall (cx B0 old) ansP (n + 2)) 28 [] H Q := by
  refine call_in 25 rfl Try.func28 rfl rfl ?_
  repeat (first | refine Z0 ?_ | (refine ZR ?_; first | refine x1 ?_ | refine x2 ?_ | refine x8 ?_ | refine Z1 ?_ | refine Z2 ?_ | refine x3 fun _ => ?_ | refine x4 fun _ => ?_ | refine x5 fun _ => ?_ | refine Z3 fun _ => ?_ | refine Z4 fun _ => ?_) | refine ZC ?_)
  refine loop_ind (ι := Nat × List Nat × Value × Hp × Hp) (0, [], .slice none 0 0, [], []) (fun j => 5 - j.1) (fun j => j.1 ≤ 5 ∧ Own enLf 3 (lvA j.2.1 (List.replicate j.1 lf0)) j.2.2.1 j.2.2.2.1 ∧ BksI 0 j.2.1 (List.replicate j.1 lf0) j.2.2.2.2)
    (fun j => [(2, .int .i64 (j.1 : Int)), (1, j.2.2.1), (0, .slice none 0 0)]) (fun j => j.2.2.2.1 ++ (j.2.2.2.2 ++ H)) ⟨Nat.zero_le _, Own.nil, rfl⟩ (by repeat (first | exact SubL.nil | refine SubL.cons rfl ?_)) (List.Sublist.refl _) ?_
  rintro ⟨j, ps, v, GA, HB⟩ ⟨hj, ho, hb⟩
  dsimp only at hj ho hb ⊢
  have hpl := hb.len
  rw [List.length_replicate] at hpl
  have hal : (lvA ps (List.replicate j lf0)).length = j := (lvA_len (by rw [List.length_replicate]; exact hpl)).trans (List.length_replicate ..)
  obtain ⟨ad, c, e, _⟩ := ho.arrW (C := cx B0 old) enLf_len
  subst e
  repeat (first | refine Z0 ?_ | (refine ZR ?_; first | refine x1 ?_ | refine x2 ?_ | refine x8 ?_ | refine Z1 ?_ | refine Z2 ?_ | refine x3 fun _ => ?_ | refine x4 fun _ => ?_ | refine x5 fun _ => ?_ | refine Z3 fun _ => ?_ | refine Z4 fun _ => ?_) | refine ZC ?_)
  refine ct_condT te_d rfl (fun hlt => ?_) (fun hlt => ?_)
  rotate_left
  · obtain rfl : j = 5 := by omega
    repeat (first | refine Z0 ?_ | (refine ZR ?_; first | refine x1 ?_ | refine x2 ?_ | refine x8 ?_ | refine Z1 ?_ | refine Z2 ?_ | refine x3 fun _ => ?_ | refine x4 fun _ => ?_ | refine x5 fun _ => ?_ | refine Z3 fun _ => ?_ | refine Z4 fun _ => ?_) | refine ZC ?_)
    exact re_1 rfl rfl (List.Sublist.refl _) (hQ ps _ GA HB ⟨ho, hb, rfl, fun x hx => by rw [List.eq_of_mem_replicate hx]; exact Nat.le_refl _⟩)
  repeat (first | refine Z0 ?_ | (refine ZR ?_; first | refine x1 ?_ | refine x2 ?_ | refine x8 ?_ | refine Z1 ?_ | refine Z2 ?_ | refine x3 fun _ => ?_ | refine x4 fun _ => ?_ | refine x5 fun _ => ?_ | refine Z3 fun _ => ?_ | refine Z4 fun _ => ?_) | refine ZC ?_)
  refine rt_step rfl rfl rfl (st_call rfl rfl rfl rfl (newW (K := K5) 100 10000 (by decide) (by decide) fun p G hB => ?_))
  refine RunT.perm ?_ (pmZ (A := GA) (B := HB) (N := G))
  repeat (first | refine Z0 ?_ | (refine ZR ?_; first | refine x1 ?_ | refine x2 ?_ | refine x8 ?_ | refine Z1 ?_ | refine Z2 ?_ | refine x3 fun _ => ?_ | refine x4 fun _ => ?_ | refine x5 fun _ => ?_ | refine Z3 fun _ => ?_ | refine Z4 fun _ => ?_) | refine ZC ?_)
  refine rt_step rfl rfl rfl (st_appP (M := [(p, false, false)]) (c := 1) (pre := [_]) ho enLf_len enLf_one rfl rfl (ap rfl) (arrW_one (a := (p, false, false)) enLf_len hm0) (Nat.le_trans (Nat.mul_le_mul_right _ (show 2 * ((lvA ps (List.replicate j lf0)).length + [(p, false, false)].length) + 192 ≤ 6000 by simp only [List.length_singleton]; omega)) (by decide)) fun v2 G2 o2 => ?_)
  repeat (first | refine Z0 ?_ | (refine ZR ?_; first | refine x1 ?_ | refine x2 ?_ | refine x8 ?_ | refine Z1 ?_ | refine Z2 ?_ | refine x3 fun _ => ?_ | refine x4 fun _ => ?_ | refine x5 fun _ => ?_ | refine Z3 fun _ => ?_ | refine Z4 fun _ => ?_) | refine ZC ?_)
  refine ⟨(j + 1, ps ++ [p], v2, G2, HB ++ G), ⟨by dsimp only; omega, ?_, ?_⟩, by dsimp only; omega, by repeat (first | exact SubL.nil | refine SubL.cons rfl ?_), ?_⟩
  · dsimp only
    rw [List.replicate_succ', lvA_app p lf0 (by rw [List.length_replicate]; exact hpl)]
    exact o2
  · dsimp only
    rw [List.replicate_succ']
    exact hb.app ⟨Int.le_refl _, Int.le_refl _⟩ hB
  · dsimp only
    rw [List.append_assoc]
    exact List.sublist_cons_self _ _
def sqV (w : Option Nat) (s : Int) : Int := match w with
  | none => -1
  | some _ => s
def atV (w : Option Nat) : Int := match w with
  | none => -1
  | some a => (a : Int)
theorem hasL_set {k : Nat} {x : Lf} (h : ls[k]? = some x) : hasL k ls = ls.set k ⟨true, x.same, x.cl, x.mv⟩ := by unfold hasL; rw [h]
theorem meets6_ct {ad : Option Addr} {c : Nat} {M : List Int} (hM : Arr (cx B0 old) H ad 1 enI M) (hQ : ∀ H', Q (.bool true) H') :
    CallT (cx B0 old) (acall (cx B0 old) ansP (n + 2020)) 6 [.slice ad M.length c] H Q := by
  refine call_in1 98 rfl Try.func6 rfl rfl ?_
  repeat (first | refine Z0 ?_ | (refine ZR ?_; first | refine x1 ?_ | refine x2 ?_ | refine x8 ?_ | refine Z1 ?_ | refine Z2 ?_ | refine x3 fun _ => ?_ | refine x4 fun _ => ?_ | refine x5 fun _ => ?_ | refine Z3 fun _ => ?_ | refine Z4 fun _ => ?_) | refine ZC ?_)
  refine rt_step rfl rfl rfl (st_call rfl rfl rfl rfl (known4_ct ?_))
  repeat (first | refine Z0 ?_ | (refine ZR ?_; first | refine x1 ?_ | refine x2 ?_ | refine x8 ?_ | refine Z1 ?_ | refine Z2 ?_ | refine x3 fun _ => ?_ | refine x4 fun _ => ?_ | refine x5 fun _ => ?_ | refine Z3 fun _ => ?_ | refine Z4 fun _ => ?_) | refine ZC ?_)
  refine rt_step rfl rfl rfl (st_call rfl rfl rfl rfl (leaves28_ct fun ps v GA HB hL => ?_))
  have hal := hL.alen
  obtain ⟨ad1, c1, e, _⟩ := hL.own.arrW (C := cx B0 old) enLf_len
  rw [hal] at e
  subst e
  repeat (first | refine Z0 ?_ | (refine ZR ?_; first | refine x1 ?_ | refine x2 ?_ | refine x8 ?_ | refine Z1 ?_ | refine Z2 ?_ | refine x3 fun _ => ?_ | refine x4 fun _ => ?_ | refine x5 fun _ => ?_ | refine Z3 fun _ => ?_ | refine Z4 fun _ => ?_) | refine ZC ?_)
  rw [show (((5 : Nat) : Int) == 0) = false from rfl]
  repeat (first | refine Z0 ?_ | (refine ZR ?_; first | refine x1 ?_ | refine x2 ?_ | refine x8 ?_ | refine Z1 ?_ | refine Z2 ?_ | refine x3 fun _ => ?_ | refine x4 fun _ => ?_ | refine x5 fun _ => ?_ | refine Z3 fun _ => ?_ | refine Z4 fun _ => ?_) | refine ZC ?_)
  refine ct_condT te_d rfl (fun hc => ?_) (fun hc => ?_)
  · repeat (first | refine Z0 ?_ | (refine ZR ?_; first | refine x1 ?_ | refine x2 ?_ | refine x8 ?_ | refine Z1 ?_ | refine Z2 ?_ | refine x3 fun _ => ?_ | refine x4 fun _ => ?_ | refine x5 fun _ => ?_ | refine Z3 fun _ => ?_ | refine Z4 fun _ => ?_) | refine ZC ?_)
    exact re_1 rfl rfl (List.Sublist.refl _) (hQ _)
  repeat (first | refine Z0 ?_ | (refine ZR ?_; first | refine x1 ?_ | refine x2 ?_ | refine x8 ?_ | refine Z1 ?_ | refine Z2 ?_ | refine x3 fun _ => ?_ | refine x4 fun _ => ?_ | refine x5 fun _ => ?_ | refine Z3 fun _ => ?_ | refine Z4 fun _ => ?_) | refine ZC ?_)
  refine loop_ind (ι := Nat × Option Nat × Int × List Lf × Hp × Hp) (0, none, 0, List.replicate 5 lf0, GA, HB) (fun j => M.length - j.1)
    (fun j => j.1 ≤ M.length ∧ Wok j.2.1 ∧ (j.2.1 = none → j.2.2.1 = 0) ∧ (0 ≤ j.2.2.1 ∧ j.2.2.1 ≤ j.1) ∧ RelS j.2.2.1 j.1 j.2.2.2.1 (stO j.2.1) ∧ LvI ps (.slice ad1 5 c1) (j.1 : Int) (15 * j.1) j.2.2.2.1 j.2.2.2.2.1 j.2.2.2.2.2)
    (fun j => [(7, .int .i64 (j.1 : Int)), (6, .int .i64 (atV j.2.1)), (5, .int .i64 (sqV j.2.1 j.2.2.1)), (4, .slice ad1 5 c1), (3, .bool true), (0, .slice ad M.length c)]) (fun j => j.2.2.2.2.1 ++ (j.2.2.2.2.2 ++ H))
    ⟨Nat.zero_le _, fun a h => (by cases h), fun _ => rfl, ⟨Int.le_refl _, Int.le_refl _⟩, relS0, hL⟩ (by repeat (first | exact SubL.nil | refine SubL.cons rfl ?_)) (List.Sublist.refl _) ?_
  clear hL hal
  rintro ⟨i, w, s, ls, GA, HB⟩ ⟨hi, hw, hz, hs, hR, hL⟩
  dsimp only at hi hw hz hs hR hL ⊢
  repeat (first | refine Z0 ?_ | (refine ZR ?_; first | refine x1 ?_ | refine x2 ?_ | refine x8 ?_ | refine Z1 ?_ | refine Z2 ?_ | refine x3 fun _ => ?_ | refine x4 fun _ => ?_ | refine x5 fun _ => ?_ | refine Z3 fun _ => ?_ | refine Z4 fun _ => ?_) | refine ZC ?_)
  refine ct_condT te_d rfl (fun hlt => ?_) (fun hlt => ?_)
  rotate_left
  · repeat (first | refine Z0 ?_ | (refine ZR ?_; first | refine x1 ?_ | refine x2 ?_ | refine x8 ?_ | refine Z1 ?_ | refine Z2 ?_ | refine x3 fun _ => ?_ | refine x4 fun _ => ?_ | refine x5 fun _ => ?_ | refine Z3 fun _ => ?_ | refine Z4 fun _ => ?_) | refine ZC ?_)
    exact re_1 rfl rfl (List.Sublist.refl _) (hQ _)
  obtain ⟨x0, hx0⟩ : ∃ x, M[i]? = some x := ⟨_, List.getElem?_eq_getElem (by omega)⟩
  obtain ⟨b1, o1, e1, hL0⟩ := hM.ld1 3 hx0 rfl rfl (sz rfl)
  subst e1
  repeat (first | refine Z0 ?_ | (refine ZR ?_; first | refine x1 ?_ | refine x2 ?_ | refine x8 ?_ | refine Z1 ?_ | refine Z2 ?_ | refine x3 fun _ => ?_ | refine x4 fun _ => ?_ | refine x5 fun _ => ?_ | refine Z3 fun _ => ?_ | refine Z4 fun _ => ?_) | refine ZC ?_)
  refine rt_step rfl rfl rfl (st_call rfl rfl rfl rfl (pick24_ct x0 5 (by decide) (by decide) fun r hr0 hr1 => ?_))
  obtain ⟨k, rfl⟩ : ∃ k : Nat, r = k := ⟨r.toNat, by omega⟩
  have hk5 : k < 5 := by omega
  have hlen := hL.len
  obtain ⟨x, hx⟩ : ∃ x, ls[k]? = some x := ⟨_, List.getElem?_eq_getElem (by omega)⟩
  obtain ⟨p, _, _, _, hp, _⟩ := hL.bks.at hx
  have hai := lvA_get hp hx
  have hal := hL.alen
  obtain ⟨GA1, oA, bb, cb, eb, hstA⟩ := hL.own.set (C := cx B0 old) (t := 4) (f := 1) (a' := (p, true, x.same)) (u := .bool true) enLf_len hai (sz rfl) rfl rfl
  rw [hal] at eb
  cases eb
  have hset := lvA_set (ls := ls) ⟨true, x.same, x.cl, x.mv⟩ hp
  rw [← hset] at oA
  have hL1 : LvI ps (.slice (some ⟨bb, 0, none⟩) 5 c1) (i : Int) (15 * i) (hasL k ls) GA1 HB := by
    rw [hasL_set hx]
    exact ⟨oA, hL.bks.flags true x.same hx, by rw [List.length_set]; exact hlen, fun y hy => by
      rcases List.mem_or_eq_of_mem_set hy with h | rfl
      · exact hL.bd y h
      · exact hL.bd x (List.mem_iff_getElem?.2 ⟨k, hx⟩)⟩
  have hR1 := meet_step (i : Int) hw hk5 hz ⟨hs.1, by omega⟩ (by omega) hR
  have hstA : ∀ pre H0, StP (cx B0 old) 4 bb (0 + k * 3 + 1) (.bool true) (pre ++ (GA ++ H0)) (pre ++ (GA1 ++ H0)) := hstA
  clear hL0 hL oA hset hp hai hx hal hR
  repeat (first | refine Z0 ?_ | (refine ZR ?_; first | refine x1 ?_ | refine x2 ?_ | refine x8 ?_ | refine Z1 ?_ | refine Z2 ?_ | refine x3 fun _ => ?_ | refine x4 fun _ => ?_ | refine x5 fun _ => ?_ | refine Z3 fun _ => ?_ | refine Z4 fun _ => ?_) | refine ZC ?_)
  refine rt_st rfl rfl rfl rfl rfl (hstA [] _) ?_
  repeat (first | refine Z0 ?_ | (refine ZR ?_; first | refine x1 ?_ | refine x2 ?_ | refine x8 ?_ | refine Z1 ?_ | refine Z2 ?_ | refine x3 fun _ => ?_ | refine x4 fun _ => ?_ | refine x5 fun _ => ?_ | refine Z3 fun _ => ?_ | refine Z4 fun _ => ?_) | refine ZC ?_)
  refine rt_step rfl rfl rfl (st_call rfl rfl rfl rfl (rounds29_ct (n := n + 1) (H := H) hL1 3 (i : Int) ⟨Int.le_refl _, by omega, by omega⟩ (by omega) fun GA2 HB2 hL2 => ?_))
  clear hL1 hstA
  generalize roundsL (i : Int) 3 (hasL k ls) = ls2 at *
  obtain ⟨s2, hs2⟩ : ∃ s2 : Int, s + (dO w k : Int) = s2 := ⟨_, rfl⟩
  rw [hs2] at hR1
  have hs3 : 0 ≤ s2 ∧ s2 ≤ i + 1 := by
    have : dO w k ≤ 1 := by unfold dO; split <;> (try split) <;> omega
    omega
  have hal := hL2.alen
  obtain ⟨ad2, c2, e2, ga⟩ := hL2.own.arrW (C := cx B0 old) enLf_len
  rw [hal] at e2
  cases e2
  have hA : Arr (cx B0 old) (GA2 ++ (HB2 ++ H)) (some ⟨bb, 0, none⟩) 3 enLf (lvA ps ls2) := (ga [] (HB2 ++ H)).arr enLf_len
  clear ga
  repeat (first | refine Z0 ?_ | (refine ZR ?_; first | refine x1 ?_ | refine x2 ?_ | refine x8 ?_ | refine Z1 ?_ | refine Z2 ?_ | refine x3 fun _ => ?_ | refine x4 fun _ => ?_ | refine x5 fun _ => ?_ | refine Z3 fun _ => ?_ | refine Z4 fun _ => ?_) | refine ZC ?_)
  refine loop_ind (ι := Nat) 0 (fun j => 5 - j) (fun j => j ≤ 5)
    (fun j => [(9, .int .i64 (j : Int)), (8, .int .i64 (k : Int)), (7, .int .i64 (i : Int)), (6, .int .i64 (atV w)), (5, .int .i64 (sqV w s)), (4, .slice (some ⟨bb, 0, none⟩) 5 c1), (3, .bool true), (0, .slice (some ⟨b1, o1, none⟩) M.length c)])
    (fun _ => GA2 ++ (HB2 ++ H)) (Nat.zero_le _) (by repeat (first | exact SubL.nil | refine SubL.cons rfl ?_)) (List.Sublist.refl _) ?_
  intro j hj
  repeat (first | refine Z0 ?_ | (refine ZR ?_; first | refine x1 ?_ | refine x2 ?_ | refine x8 ?_ | refine Z1 ?_ | refine Z2 ?_ | refine x3 fun _ => ?_ | refine x4 fun _ => ?_ | refine x5 fun _ => ?_ | refine Z3 fun _ => ?_ | refine Z4 fun _ => ?_) | refine ZC ?_)
  refine ct_condT te_d rfl (fun hjl => ?_) (fun hjl => ?_)
  · have hj5 : j < 5 := by omega
    obtain ⟨x, hx, hxh, hxs, hxc⟩ := st_get hR1 hj5
    obtain ⟨p, Gi, R, l, hp, hpm, hl, hB, _⟩ := hL2.bks.at hx
    have hai := lvA_get hp hx
    obtain ⟨b3, o3, e3, hL0⟩ := hA.ldF 4 1 hai rfl rfl rfl (sz rfl)
    obtain ⟨b4, o4, e4, hL1⟩ := hA.ldF 33 0 hai rfl rfl rfl (sz rfl)
    cases e3
    cases e4
    dsimp only at hL0 hL1
    rw [hxh] at hL0
    by_cases hjk : j = k
    · have e1 : (some k == some j) = true := by rw [hjk]; exact beq_self_eq_true _
      have e2 : ((j : Int) == (k : Int)) = true := by rw [hjk]; exact beq_self_eq_true _
      rw [e1] at hL0 hxc
      repeat (first | refine Z0 ?_ | (refine ZR ?_; first | refine x1 ?_ | refine x2 ?_ | refine x8 ?_ | refine Z1 ?_ | refine Z2 ?_ | refine x3 fun _ => ?_ | refine x4 fun _ => ?_ | refine x5 fun _ => ?_ | refine Z3 fun _ => ?_ | refine Z4 fun _ => ?_) | refine ZC ?_)
      rw [e2]
      repeat (first | refine Z0 ?_ | (refine ZR ?_; first | refine x1 ?_ | refine x2 ?_ | refine x8 ?_ | refine Z1 ?_ | refine Z2 ?_ | refine x3 fun _ => ?_ | refine x4 fun _ => ?_ | refine x5 fun _ => ?_ | refine Z3 fun _ => ?_ | refine Z4 fun _ => ?_) | refine ZC ?_)
      refine rt_step rfl rfl rfl (st_call rfl rfl rfl rfl (CallT.perm (claimsW (n := n + 3) (H := GA2 ++ (R ++ H)) hB K5_ok fun vc Gv ho => ?_) (pmV hpm).symm))
      refine RunT.perm ?_ (List.Perm.append_left Gv (pmV hpm))
      rw [hxc] at ho
      obtain ⟨adc, cc, ec, _⟩ := ho.arrW (C := cx B0 old) en57_len
      subst ec
      dsimp only [if_pos, clL, List.length_cons, List.length_nil]
      repeat (first | refine Z0 ?_ | (refine ZR ?_; first | refine x1 ?_ | refine x2 ?_ | refine x8 ?_ | refine Z1 ?_ | refine Z2 ?_ | refine x3 fun _ => ?_ | refine x4 fun _ => ?_ | refine x5 fun _ => ?_ | refine Z3 fun _ => ?_ | refine Z4 fun _ => ?_) | refine ZC ?_)
      rw [e2]
      repeat (first | refine Z0 ?_ | (refine ZR ?_; first | refine x1 ?_ | refine x2 ?_ | refine x8 ?_ | refine Z1 ?_ | refine Z2 ?_ | refine x3 fun _ => ?_ | refine x4 fun _ => ?_ | refine x5 fun _ => ?_ | refine Z3 fun _ => ?_ | refine Z4 fun _ => ?_) | refine ZC ?_)
      exact ⟨j + 1, by omega, by omega, by repeat (first | exact SubL.nil | refine SubL.cons rfl ?_), by exact drop_auto⟩
    · have e1 : (some k == some j) = false := by rw [beq_eq_false_iff_ne]; intro h; cases h; exact hjk rfl
      have e2 : ((j : Int) == (k : Int)) = false := by rw [beq_eq_false_iff_ne]; omega
      rw [e1] at hL0 hxc
      repeat (first | refine Z0 ?_ | (refine ZR ?_; first | refine x1 ?_ | refine x2 ?_ | refine x8 ?_ | refine Z1 ?_ | refine Z2 ?_ | refine x3 fun _ => ?_ | refine x4 fun _ => ?_ | refine x5 fun _ => ?_ | refine Z3 fun _ => ?_ | refine Z4 fun _ => ?_) | refine ZC ?_)
      rw [e2]
      repeat (first | refine Z0 ?_ | (refine ZR ?_; first | refine x1 ?_ | refine x2 ?_ | refine x8 ?_ | refine Z1 ?_ | refine Z2 ?_ | refine x3 fun _ => ?_ | refine x4 fun _ => ?_ | refine x5 fun _ => ?_ | refine Z3 fun _ => ?_ | refine Z4 fun _ => ?_) | refine ZC ?_)
      refine rt_step rfl rfl rfl (st_call rfl rfl rfl rfl (CallT.perm (claimsW (n := n + 3) (H := GA2 ++ (R ++ H)) hB K5_ok fun vc Gv ho => ?_) (pmV hpm).symm))
      refine RunT.perm ?_ (List.Perm.append_left Gv (pmV hpm))
      rw [hxc] at ho
      obtain ⟨adc, cc, ec, _⟩ := ho.arrW (C := cx B0 old) en57_len
      subst ec
      repeat (first | refine Z0 ?_ | (refine ZR ?_; first | refine x1 ?_ | refine x2 ?_ | refine x8 ?_ | refine Z1 ?_ | refine Z2 ?_ | refine x3 fun _ => ?_ | refine x4 fun _ => ?_ | refine x5 fun _ => ?_ | refine Z3 fun _ => ?_ | refine Z4 fun _ => ?_) | refine ZC ?_)
      rw [e2]
      repeat (first | refine Z0 ?_ | (refine ZR ?_; first | refine x1 ?_ | refine x2 ?_ | refine x8 ?_ | refine Z1 ?_ | refine Z2 ?_ | refine x3 fun _ => ?_ | refine x4 fun _ => ?_ | refine x5 fun _ => ?_ | refine Z3 fun _ => ?_ | refine Z4 fun _ => ?_) | refine ZC ?_)
      exact ⟨j + 1, by omega, by omega, by repeat (first | exact SubL.nil | refine SubL.cons rfl ?_), by exact drop_auto⟩
  obtain ⟨x, hx, hxh, hxs, hxc⟩ := st_get hR1 hk5
  rw [show (some k == some k) = true from beq_self_eq_true _, if_pos rfl] at hxc
  obtain ⟨p, Gi, R, l, hp, hpm, hl, hB, _⟩ := hL2.bks.at hx
  have hai := lvA_get hp hx
  obtain ⟨b4, o4, e4, hL1⟩ := hA.ldF 33 0 hai rfl rfl rfl (sz rfl)
  cases e4
  dsimp only at hL1
  repeat (first | refine Z0 ?_ | (refine ZR ?_; first | refine x1 ?_ | refine x2 ?_ | refine x8 ?_ | refine Z1 ?_ | refine Z2 ?_ | refine x3 fun _ => ?_ | refine x4 fun _ => ?_ | refine x5 fun _ => ?_ | refine Z3 fun _ => ?_ | refine Z4 fun _ => ?_) | refine ZC ?_)
  refine rt_step rfl rfl rfl (st_call rfl rfl rfl rfl (CallT.perm (claimsW (n := n + 3) (H := GA2 ++ (R ++ H)) hB K5_ok fun vc Gv ho => ?_) (pmV hpm).symm))
  refine RunT.perm ?_ (List.Perm.append_left Gv (pmV hpm))
  rw [hxc] at ho
  obtain ⟨adc, cc, ec, gc⟩ := ho.arrW (C := cx B0 old) en57_len
  subst ec
  have hC := (gc [] (GA2 ++ (HB2 ++ H))).arr en57_len
  clear gc
  have hc0 : (clL K5 (some (s2, false)))[0]? = some ⟨0, 5, s2, false⟩ := rfl
  obtain ⟨b5, o5, e5, hL2'⟩ := hC.ldF 22 2 hc0 rfl rfl rfl (sz rfl)
  subst e5
  have hL0 := hL2'
  dsimp only at hL0
  dsimp only [clL, List.length_cons, List.length_nil]
  repeat (first | refine Z0 ?_ | (refine ZR ?_; first | refine x1 ?_ | refine x2 ?_ | refine x8 ?_ | refine Z1 ?_ | refine Z2 ?_ | refine x3 fun _ => ?_ | refine x4 fun _ => ?_ | refine x5 fun _ => ?_ | refine Z3 fun _ => ?_ | refine Z4 fun _ => ?_) | refine ZC ?_)
  have ew : IntKind.i64.wrap s2 = s2 := IntWalk.i64_in _ (by omega)
  rw [ew]
  clear ew
  have hnext : LvI ps (.slice (some ⟨bb, 0, none⟩) 5 c1) ((i + 1 : Nat) : Int) (15 * (i + 1)) ls2 GA2 HB2 := hL2.mono (by omega) (by omega)
  have hwk : Wok (some k) := fun a e => by cases e; exact hk5
  cases w with
  | none =>
    have hs0 := hz rfl
    have hs2' : s2 = 0 := by rw [← hs2, hs0]; rfl
    subst hs2'
    dsimp only [atV, sqV]
    repeat (first | refine Z0 ?_ | (refine ZR ?_; first | refine x1 ?_ | refine x2 ?_ | refine x8 ?_ | refine Z1 ?_ | refine Z2 ?_ | refine x3 fun _ => ?_ | refine x4 fun _ => ?_ | refine x5 fun _ => ?_ | refine Z3 fun _ => ?_ | refine Z4 fun _ => ?_) | refine ZC ?_)
    rw [show ((k : Int) == -1) = false by rw [beq_eq_false_iff_ne]; omega]
    repeat (first | refine Z0 ?_ | (refine ZR ?_; first | refine x1 ?_ | refine x2 ?_ | refine x8 ?_ | refine Z1 ?_ | refine Z2 ?_ | refine x3 fun _ => ?_ | refine x4 fun _ => ?_ | refine x5 fun _ => ?_ | refine Z3 fun _ => ?_ | refine Z4 fun _ => ?_) | refine ZC ?_)
    rw [show ((k : Int) != -1) = true by rw [bne_iff_ne]; omega]
    repeat (first | refine Z0 ?_ | (refine ZR ?_; first | refine x1 ?_ | refine x2 ?_ | refine x8 ?_ | refine Z1 ?_ | refine Z2 ?_ | refine x3 fun _ => ?_ | refine x4 fun _ => ?_ | refine x5 fun _ => ?_ | refine Z3 fun _ => ?_ | refine Z4 fun _ => ?_) | refine ZC ?_)
    exact ⟨(i + 1, some k, 0, ls2, GA2, HB2), ⟨by dsimp only; omega, hwk, fun h => (by cases h), ⟨by dsimp only; omega, by dsimp only; omega⟩, hR1, hnext⟩, by dsimp only; omega, by repeat (first | exact SubL.nil | refine SubL.cons rfl ?_), by exact drop_auto⟩
  | some a =>
    dsimp only [atV, sqV]
    by_cases hak : a = k
    · subst hak
      have hs2' : s2 = s := by rw [← hs2]; simp [dO]
      subst hs2'
      repeat (first | refine Z0 ?_ | (refine ZR ?_; first | refine x1 ?_ | refine x2 ?_ | refine x8 ?_ | refine Z1 ?_ | refine Z2 ?_ | refine x3 fun _ => ?_ | refine x4 fun _ => ?_ | refine x5 fun _ => ?_ | refine Z3 fun _ => ?_ | refine Z4 fun _ => ?_) | refine ZC ?_)
      rw [show ((a : Int) == (a : Int)) = true from beq_self_eq_true _]
      repeat (first | refine Z0 ?_ | (refine ZR ?_; first | refine x1 ?_ | refine x2 ?_ | refine x8 ?_ | refine Z1 ?_ | refine Z2 ?_ | refine x3 fun _ => ?_ | refine x4 fun _ => ?_ | refine x5 fun _ => ?_ | refine Z3 fun _ => ?_ | refine Z4 fun _ => ?_) | refine ZC ?_)
      rw [show (s2 != s2) = false by simp]
      repeat (first | refine Z0 ?_ | (refine ZR ?_; first | refine x1 ?_ | refine x2 ?_ | refine x8 ?_ | refine Z1 ?_ | refine Z2 ?_ | refine x3 fun _ => ?_ | refine x4 fun _ => ?_ | refine x5 fun _ => ?_ | refine Z3 fun _ => ?_ | refine Z4 fun _ => ?_) | refine ZC ?_)
      rw [show ((a : Int) != (a : Int)) = false by simp]
      repeat (first | refine Z0 ?_ | (refine ZR ?_; first | refine x1 ?_ | refine x2 ?_ | refine x8 ?_ | refine Z1 ?_ | refine Z2 ?_ | refine x3 fun _ => ?_ | refine x4 fun _ => ?_ | refine x5 fun _ => ?_ | refine Z3 fun _ => ?_ | refine Z4 fun _ => ?_) | refine ZC ?_)
      exact ⟨(i + 1, some a, s2, ls2, GA2, HB2), ⟨by dsimp only; omega, hwk, fun h => (by cases h), ⟨by dsimp only; omega, by dsimp only; omega⟩, hR1, hnext⟩, by dsimp only; omega, by repeat (first | exact SubL.nil | refine SubL.cons rfl ?_), by exact drop_auto⟩
    · have hs2' : s2 = s + 1 := by rw [← hs2]; simp [dO, hak]
      repeat (first | refine Z0 ?_ | (refine ZR ?_; first | refine x1 ?_ | refine x2 ?_ | refine x8 ?_ | refine Z1 ?_ | refine Z2 ?_ | refine x3 fun _ => ?_ | refine x4 fun _ => ?_ | refine x5 fun _ => ?_ | refine Z3 fun _ => ?_ | refine Z4 fun _ => ?_) | refine ZC ?_)
      rw [show ((k : Int) == (a : Int)) = false by rw [beq_eq_false_iff_ne]; omega]
      repeat (first | refine Z0 ?_ | (refine ZR ?_; first | refine x1 ?_ | refine x2 ?_ | refine x8 ?_ | refine Z1 ?_ | refine Z2 ?_ | refine x3 fun _ => ?_ | refine x4 fun _ => ?_ | refine x5 fun _ => ?_ | refine Z3 fun _ => ?_ | refine Z4 fun _ => ?_) | refine ZC ?_)
      rw [show ((k : Int) != (a : Int)) = true by rw [bne_iff_ne]; omega]
      repeat (first | refine Z0 ?_ | (refine ZR ?_; first | refine x1 ?_ | refine x2 ?_ | refine x8 ?_ | refine Z1 ?_ | refine Z2 ?_ | refine x3 fun _ => ?_ | refine x4 fun _ => ?_ | refine x5 fun _ => ?_ | refine Z3 fun _ => ?_ | refine Z4 fun _ => ?_) | refine ZC ?_)
      rw [show (s2 != s + 1) = false by rw [bne_eq_false_iff_eq]; exact hs2']
      repeat (first | refine Z0 ?_ | (refine ZR ?_; first | refine x1 ?_ | refine x2 ?_ | refine x8 ?_ | refine Z1 ?_ | refine Z2 ?_ | refine x3 fun _ => ?_ | refine x4 fun _ => ?_ | refine x5 fun _ => ?_ | refine Z3 fun _ => ?_ | refine Z4 fun _ => ?_) | refine ZC ?_)
      exact ⟨(i + 1, some k, s2, ls2, GA2, HB2), ⟨by dsimp only; omega, hwk, fun h => (by cases h), ⟨by dsimp only; omega, by dsimp only; omega⟩, hR1, hnext⟩, by dsimp only; omega, by repeat (first | exact SubL.nil | refine SubL.cons rfl ?_), by exact drop_auto⟩
end
end Go.Proofs.Ytoimfchhmocgeaa.Abs
