/- Frames: the relation between abstract and concrete ones. -/
import Derived.Test.YtpdhkonifbdckaaAbs13
import Derived.CallsIn
import Derived.RangeFuncOne
namespace Go.Proofs.Ytpdhkonifbdckaa.Abs
open Go
set_option linter.unusedSectionVars false
variable [Tok]
set_option linter.unusedSimpArgs false

theorem put_nt (fr : Fr) (d : Option Tmp) (v : Value) : (fr.put d v).nt = fr.nt := by
  unfold Fr.put
  split
  · split <;> rfl
  · rfl
theorem put_get (fr : Fr) (d : Option Tmp) (v : Value) (t : Nat) : (fr.put d v).get t = if d = some t ∧ t < fr.nt then v else fr.get t := by
  unfold Fr.put
  split
  · rename_i u
    split
    · rename_i hlt
      have hlt' : u < fr.nt := Nat.le_of_ble_eq_true hlt
      unfold Fr.get
      by_cases e : t = u
      · subst e; simp [Trie.get_set, hlt']
      · rw [if_neg (by simp; intro h; exact absurd h.symm e)]; simp [Trie.get_set, e]
    · rename_i hlt
      have hlt' : ¬ u < fr.nt := by
        intro h
        have : Nat.blt u fr.nt = true := Nat.ble_eq_true_of_le h
        rw [this] at hlt; cases hlt
      rw [if_neg]
      rintro ⟨h1, h2⟩
      cases h1
      exact hlt' h2
  · rw [if_neg (by simp)]
def MarkR (φ : Nat → Option Loc) (N : Nat) : Mark → Deferred → Prop
  | .blk m, d => m < N ∧ d.args = #[] ∧ ∃ r, d.target = .collected r ∧ ∀ l, φ m = some l → r = l.blk
  | .call f args, d => ∃ fi ca, d = { target := .fn (.func f) ⟨ca⟩, args := ⟨fi⟩ } ∧ VRs φ N args (fi ++ ca)
def MarksR (φ : Nat → Option Loc) (N : Nat) : List Mark → List Deferred → Prop
  | [], [] => True
  | m :: ms, d :: ds => MarkR φ N m d ∧ MarksR φ N ms ds
  | _, _ => False
theorem MarkR.later {φ φ' : Nat → Option Loc} {N N' : Nat} (L : Later φ N φ' N') : ∀ {m : Mark} {d : Deferred}, MarkR φ N m d → MarkR φ' N' m d
  | .blk _, _, ⟨h1, h2, r, h3, h4⟩ => ⟨Nat.lt_of_lt_of_le h1 L.1, h2, r, h3, fun l hl => h4 l (L.some h1 hl)⟩
  | .call _ _, _, ⟨fi, ca, h1, h2⟩ => ⟨fi, ca, h1, h2.later L⟩
theorem MarksR.later {φ φ' : Nat → Option Loc} {N N' : Nat} (L : Later φ N φ' N') : ∀ {ms : List Mark} {ds : List Deferred}, MarksR φ N ms ds → MarksR φ' N' ms ds
  | [], [], _ => trivial
  | _ :: _, _ :: _, ⟨h1, h⟩ => ⟨h1.later L, h.later L⟩
  | [], _ :: _, h => h.elim
  | _ :: _, [], h => h.elim
theorem put_marks (fr : Fr) (d : Option Tmp) (v : Value) : (fr.put d v).marks = fr.marks := by
  unfold Fr.put
  split
  · split <;> rfl
  · rfl
/-- The frame of a machine. -/
structure FrR (φ : Nat → Option Loc) (N : Nat) (fr : Fr) (a : Act) : Prop where
  defers : MarksR φ N fr.marks a.defers
  size : a.tmps.size = fr.nt
  tmps : ∀ t, VR φ N (fr.get t) (a.tmps.getD t undef)

theorem act_put_getD (a : Act) (d : Option Tmp) (v : Value) (t : Nat) : (a.put d v).tmps.getD t undef = if d = some t ∧ t < a.tmps.size then v else a.tmps.getD t undef := by
  cases d with
  | none => simp [Act.put]
  | some u =>
    simp only [Act.put, Option.some.injEq]
    by_cases e : u = t
    · subst e
      by_cases hlt : u < a.tmps.size
      · simp [hlt]
      · simp [hlt]
    · rw [if_neg (fun h => e h.1)]
      simp [Array.getD_eq_getD_getElem?, Array.getElem?_setIfInBounds_ne e]

theorem FrR.put {φ : Nat → Option Loc} {N : Nat} {fr : Fr} {a : Act} (h : FrR φ N fr a) (d : Option Tmp) {v v' : Value} (hv : VR φ N v v') : FrR φ N (fr.put d v) (a.put d v') := by
  refine ⟨?_, ?_, fun t => ?_⟩
  · rw [put_marks]; cases d <;> exact h.defers
  · rw [put_nt, ← h.size]; cases d <;> simp [Act.put]
  · rw [put_get, act_put_getD, h.size]
    split
    · exact hv
    · exact h.tmps t

theorem FrR.later {φ φ' : Nat → Option Loc} {N N' : Nat} {fr : Fr} {a : Act} (h : FrR φ N fr a) (L : Later φ N φ' N') : FrR φ' N' fr a := ⟨h.defers.later L, h.size, fun t => (h.tmps t).later L⟩

theorem eval_rel {φ : Nat → Option Loc} {N : Nat} {fr : Fr} {a : Act} {x : Operand} (hok : okOperand x = true) (h : ∀ t, x = .tmp t → VR φ N (fr.get t) (a.tmps.getD t undef)) : VR φ N (fr.eval x) (a.eval x) := by
  cases x with
  | tmp t => exact h t rfl
  | const v => exact VR.plain hok
  | global g => cases hok
  | func f => exact .func f [] [] [] [] .nil .nil

theorem FrR.rho {φ : Nat → Option Loc} {N : Nat} {fr : Fr} {a : Act} (h : FrR φ N fr a) {o : Op} (hok : o.operands.toList.all okOperand = true) : RhoR φ N o fr.eval a.eval :=
  fun x hx => eval_rel (List.all_eq_true.1 hok x hx) fun t _ => h.tmps t


def exitOf : AX → Exit
  | .normal => .normal
  | .exit id => .exit id
  | .ret => .ret
end Go.Proofs.Ytpdhkonifbdckaa.Abs
