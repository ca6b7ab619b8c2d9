/- The relation between abstract and concrete values, memory and frames, and how it is kept. -/
import Derived.Test.YtpdhkonifbdckaaAbs0
import Derived.CallsIn
import Derived.Laws.CopyRow
namespace Go.Proofs.Ytpdhkonifbdckaa.Abs
open Go

/-! ### The trie -/
namespace Trie
variable {α : Type}
theorem get_node_zero (v : Option α) (l r : Trie α) : (node v l r).get 0 = v := by rw [get]
theorem get_val (t : Trie α) : t.get 0 = t.val := by cases t <;> simp [get, val]
theorem val_node (v : Option α) (l r : Trie α) : (node v l r).val = v := rfl
theorem left_node (v : Option α) (l r : Trie α) : (node v l r).left = l := rfl
theorem right_node (v : Option α) (l r : Trie α) : (node v l r).right = r := rfl
theorem get_succ (t : Trie α) (n : Nat) : t.get (n + 1) = if n % 2 = 0 then t.left.get (n / 2) else t.right.get (n / 2) := by
  cases t with
  | nil => simp [get, left, right]
  | node v l r =>
    rw [get]
    rcases Nat.mod_two_eq_zero_or_one n with h | h <;> simp [h, left, right]
theorem get_setF : ∀ (f : Nat) (t : Trie α) (n : Nat) (v : α), n ≤ f → ∀ m, (setF f t n v).get m = if m = n then some v else t.get m
  | f, t, 0, v, _, m => by
    have e : setF f t 0 v = node (some v) t.left t.right := by cases f <;> rw [setF]
    rw [e]
    cases m with
    | zero => rw [get_val]; simp [val_node]
    | succ m => rw [get_succ, get_succ, left_node, right_node]; simp
  | 0, t, n + 1, v, h, m => by omega
  | f + 1, t, n + 1, v, h, m => by
    rw [setF]
    rcases Nat.mod_two_eq_zero_or_one n with hn | hn
    · simp only [hn]
      cases m with
      | zero => rw [get_node_zero]; rw [get_val]; simp
      | succ m =>
        rw [get_succ, get_succ]
        rw [left_node, right_node]
        rw [get_setF f t.left (n / 2) v (by omega)]
        rcases Nat.mod_two_eq_zero_or_one m with hm | hm
        · by_cases e : m = n
          · subst e; simp [hm]
          · have : m / 2 ≠ n / 2 := by omega
            simp [hm, this, e]
        · have : m ≠ n := by omega
          simp [hm, this]
    · simp only [hn]
      cases m with
      | zero => rw [get_node_zero]; rw [get_val]; simp
      | succ m =>
        rw [get_succ, get_succ]
        rw [left_node, right_node]
        rw [get_setF f t.right (n / 2) v (by omega)]
        rcases Nat.mod_two_eq_zero_or_one m with hm | hm
        · have : m ≠ n := by omega
          simp [hm, this]
        · by_cases e : m = n
          · subst e; simp [hm]
          · have : m / 2 ≠ n / 2 := by omega
            simp [hm, this, e]
theorem get_set (t : Trie α) (n : Nat) (v : α) (m : Nat) : (t.set n v).get m = if m = n then some v else t.get m := get_setF n t n v (Nat.le_refl _) m
theorem get_set_same (t : Trie α) (n : Nat) (v : α) : (t.set n v).get n = some v := by simp [get_set]
theorem get_set_other (t : Trie α) (n m : Nat) (v : α) (h : m ≠ n) : (t.set n v).get m = t.get m := by simp [get_set, h]
theorem get_nil (n : Nat) : (nil : Trie α).get n = none := by cases n <;> rw [get]
theorem get_ofList : ∀ (l : List α) (n : Nat) (t : Trie α) (m : Nat), (ofList l n t).get m = if n ≤ m ∧ m < n + l.length then l[m - n]? else t.get m
  | [], n, t, m => by
    rw [ofList]; rw [if_neg]; simp
  | v :: l, n, t, m => by
    rw [ofList, get_ofList l (n + 1) (t.set n v) m, get_set]
    by_cases h1 : n + 1 ≤ m ∧ m < n + 1 + l.length
    · rw [if_pos h1, if_pos (by simp; omega)]
      obtain ⟨k, rfl⟩ : ∃ k, m = n + 1 + k := ⟨m - (n + 1), by omega⟩
      rw [show n + 1 + k - n = k + 1 from by omega, show n + 1 + k - (n + 1) = k from by omega]
      simp
    · rw [if_neg h1]
      by_cases h2 : m = n
      · subst h2; rw [if_pos rfl, if_pos (by simp)]; simp
      · rw [if_neg h2, if_neg (by simp; omega)]
end Trie

/-! ### Values -/
structure Loc where
  blk : Nat
  size : Nat
  es : Nat

/-- The true capacity, where the abstract one is 'to the end of the row' (EL + the cells of an element). -/
def CapOk (l : Loc) (o c c' : Nat) : Prop := ∀ k, c = EL + k → o + c' * k = l.size

/-- What the unknown numbers stand for. -/
class Tok where
  tk : Nat → Option Value
set_option linter.unusedSectionVars false
variable [Tok]

mutual
inductive VR (φ : Nat → Option Loc) (N : Nat) : Value → Value → Prop where
  | any (v : Value) : VR φ N (.tuple #[.nilFunc]) v
  | tok (i : Nat) (v : Value) (h : Tok.tk i = some v) : VR φ N (.tuple #[.nilFunc, .int .i64 i]) v
  | bool (b : Bool) : VR φ N (.bool b) (.bool b)
  | int (k : IntKind) (n : Int) : VR φ N (.int k n) (.int k n)
  | string (s : ByteArray) : VR φ N (.string s) (.string s)
  | nilFunc : VR φ N .nilFunc .nilFunc
  | nilIface : VR φ N .nilIface .nilIface
  | ptrNil : VR φ N (.pointer none) (.pointer none)
  | ptr (b o : Nat) (a : Addr) (hb : b < N) (h : ∀ l, φ b = some l → a = ⟨l.blk, o, none⟩) : VR φ N (.pointer (some ⟨b, o, none⟩)) (.pointer (some a))
  | sliceNil : VR φ N (.slice none 0 0) (.slice none 0 0)
  | slice (b o n c : Nat) (a : Addr) (c' : Nat) (hb : b < N) (hn : n ≤ c') (hc : c < EL → c' = c) (h : ∀ l, φ b = some l → a = ⟨l.blk, o, none⟩ ∧ CapOk l o c c') :
      VR φ N (.slice (some ⟨b, o, none⟩) n c) (.slice (some a) n c')
  | mapNil : VR φ N (.map none) (.map none)
  | map (b m : Nat) (hb : b < N) (h : ∀ l, φ b = some l → m = l.blk) : VR φ N (.map (some b)) (.map (some m))
  | func (f : FuncId) (a b a' b' : List Value) (h1 : VRs φ N a a') (h2 : VRs φ N b b') : VR φ N (.func (.func f) ⟨a⟩ ⟨b⟩) (.func (.func f) ⟨a'⟩ ⟨b'⟩)
  | yield (b m : Nat) (hb : b < N) (h : ∀ l, φ b = some l → m = l.blk) : VR φ N (.func (.yield b) #[] #[]) (.func (.yield m) #[] #[])
  | iface (t : TypeId) (v v' : Value) (h : VR φ N v v') : VR φ N (.iface t v) (.iface t v')
  | agg (cs cs' : List Value) (h : VRs φ N cs cs') : VR φ N (.agg ⟨cs⟩) (.agg ⟨cs'⟩)
  | tuple (cs cs' : List Value) (h : VRs φ N cs cs') : VR φ N (.tuple ⟨cs⟩) (.tuple ⟨cs'⟩)
inductive VRs (φ : Nat → Option Loc) (N : Nat) : List Value → List Value → Prop where
  | nil : VRs φ N [] []
  | cons (v v' : Value) (l l' : List Value) (h : VR φ N v v') (hl : VRs φ N l l') : VRs φ N (v :: l) (v' :: l')
end

/-- How the places of blocks may change: a block may die. -/
def Later (φ : Nat → Option Loc) (N : Nat) (φ' : Nat → Option Loc) (N' : Nat) : Prop := N ≤ N' ∧ ∀ b, b < N → φ' b = φ b ∨ φ' b = none

theorem Later.refl (φ : Nat → Option Loc) (N : Nat) : Later φ N φ N := ⟨Nat.le_refl _, fun _ _ => .inl rfl⟩
theorem Later.trans {φ φ' φ'' : Nat → Option Loc} {N N' N'' : Nat} (h : Later φ N φ' N') (k : Later φ' N' φ'' N'') : Later φ N φ'' N'' :=
  ⟨Nat.le_trans h.1 k.1, fun b hb => by
    rcases k.2 b (Nat.lt_of_lt_of_le hb h.1) with e | e
    · rw [e]; exact h.2 b hb
    · exact .inr e⟩
theorem Later.some {φ φ' : Nat → Option Loc} {N N' b : Nat} {l : Loc} (h : Later φ N φ' N') (hb : b < N) (hl : φ' b = some l) : φ b = some l := by
  rcases h.2 b hb with e | e
  · rw [← e]; exact hl
  · rw [e] at hl; cases hl

mutual
theorem VR.later {φ φ' : Nat → Option Loc} {N N' : Nat} (L : Later φ N φ' N') : ∀ {v v' : Value}, VR φ N v v' → VR φ' N' v v'
  | _, _, .any v => .any v
  | _, _, .tok i v h => .tok i v h
  | _, _, .bool b => .bool b
  | _, _, .int k n => .int k n
  | _, _, .string s => .string s
  | _, _, .nilFunc => .nilFunc
  | _, _, .nilIface => .nilIface
  | _, _, .ptrNil => .ptrNil
  | _, _, .ptr b o a hb h => .ptr b o a (Nat.lt_of_lt_of_le hb L.1) fun l hl => h l (L.some hb hl)
  | _, _, .sliceNil => .sliceNil
  | _, _, .slice b o n c a c' hb hn hc h => .slice b o n c a c' (Nat.lt_of_lt_of_le hb L.1) hn hc fun l hl => h l (L.some hb hl)
  | _, _, .mapNil => .mapNil
  | _, _, .map b m hb h => .map b m (Nat.lt_of_lt_of_le hb L.1) fun l hl => h l (L.some hb hl)
  | _, _, .func f a b a' b' h1 h2 => .func f a b a' b' (VRs.later L h1) (VRs.later L h2)
  | _, _, .yield b m hb h => .yield b m (Nat.lt_of_lt_of_le hb L.1) fun l hl => h l (L.some hb hl)
  | _, _, .iface t v v' h => .iface t v v' (VR.later L h)
  | _, _, .agg cs cs' h => .agg cs cs' (VRs.later L h)
  | _, _, .tuple cs cs' h => .tuple cs cs' (VRs.later L h)
theorem VRs.later {φ φ' : Nat → Option Loc} {N N' : Nat} (L : Later φ N φ' N') : ∀ {l l' : List Value}, VRs φ N l l' → VRs φ' N' l l'
  | _, _, .nil => .nil
  | _, _, .cons v v' l l' h hl => .cons v v' l l' (VR.later L h) (VRs.later L hl)
end

section
variable {φ : Nat → Option Loc} {N : Nat}
theorem VRs.length : ∀ {l l' : List Value}, VRs φ N l l' → l.length = l'.length
  | _, _, .nil => rfl
  | _, _, .cons _ _ _ _ _ h => by simp [VRs.length h]
theorem VRs.get : ∀ {l l' : List Value}, VRs φ N l l' → ∀ {j : Nat} {v : Value}, l[j]? = some v → ∃ v', l'[j]? = some v' ∧ VR φ N v v'
  | _, _, .nil, j, v, h => by simp at h
  | _, _, .cons v v' l l' h hl, 0, u, e => ⟨v', by simp, by simp at e; exact e ▸ h⟩
  | _, _, .cons v v' l l' h hl, j + 1, u, e => by simpa using VRs.get hl (by simpa using e)
theorem VRs.mk : ∀ {l l' : List Value}, l.length = l'.length → (∀ (j : Nat) (v v' : Value), l[j]? = some v → l'[j]? = some v' → VR φ N v v') → VRs φ N l l'
  | [], [], _, _ => .nil
  | v :: l, v' :: l', hl, h => .cons v v' l l' (h 0 v v' rfl rfl) (VRs.mk (by simpa using hl) fun j u u' h1 h2 => h (j + 1) u u' (by simpa using h1) (by simpa using h2))
  | [], _ :: _, hl, _ => by simp at hl
  | _ :: _, [], hl, _ => by simp at hl
theorem VRs.append : ∀ {l l' m m' : List Value}, VRs φ N l l' → VRs φ N m m' → VRs φ N (l ++ m) (l' ++ m')
  | _, _, _, _, .nil, h => h
  | _, _, _, _, .cons v v' l l' h hl, k => .cons v v' _ _ h (VRs.append hl k)
theorem VRs.map {α : Type} {f g : α → Value} : ∀ (l : List α), (∀ x, x ∈ l → VR φ N (f x) (g x)) → VRs φ N (l.map f) (l.map g)
  | [], _ => .nil
  | x :: l, h => .cons _ _ _ _ (h x (by simp)) (VRs.map l fun y hy => h y (by simp [hy]))
theorem VRs.take : ∀ {l l' : List Value} (n : Nat), VRs φ N l l' → VRs φ N (l.take n) (l'.take n)
  | _, _, 0, _ => by simpa using .nil
  | _, _, n + 1, .nil => by simpa using .nil
  | _, _, n + 1, .cons v v' l l' h hl => by simpa using .cons _ _ _ _ h (VRs.take n hl)
theorem VRs.drop : ∀ {l l' : List Value} (n : Nat), VRs φ N l l' → VRs φ N (l.drop n) (l'.drop n)
  | _, _, 0, h => by simpa using h
  | _, _, n + 1, .nil => by simpa using .nil
  | _, _, n + 1, .cons v v' l l' h hl => by simpa using VRs.drop n hl

/-- A value without addresses is related to itself alone. -/
theorem VR.scal_eq {v v' : Value} (h : VR φ N v v') (hs : scal v = true) : v' = v := by
  cases h with
  | any => simp [scal, scalCell] at hs
  | agg cs cs' h =>
    congr 2
    simp only [scal] at hs
    have hs' : ∀ x, x ∈ cs → scalCell x = true := by simpa using hs
    clear hs
    induction cs generalizing cs' with
    | nil => cases h; rfl
    | cons x cs ih =>
      cases h with
      | cons _ x' _ l' hx hl =>
        have hx0 := hs' x (by simp)
        rw [ih l' hl fun y hy => hs' y (by simp [hy])]
        congr 1
        cases hx <;> first | rfl | simp [scalCell] at hx0
  | _ => first | rfl | simp [scal, scalCell] at hs

theorem plainCell_refl {v : Value} (h : plainCell v = true) : VR φ N v v := by
  unfold plainCell at h
  split at h <;> first | constructor | cases h
theorem VR.plain {v : Value} (h : plainConst v = true) : VR φ N v v := by
  unfold plainConst at h
  split at h
  · rename_i cs
    obtain ⟨l⟩ := cs
    have h' : ∀ x, x ∈ l → plainCell x = true := by simpa using h
    have := VRs.map (f := id) (g := id) (φ := φ) (N := N) l fun x hx => plainCell_refl (h' x hx)
    exact VR.agg _ _ (by simpa using this)
  · rename_i cs
    obtain ⟨l⟩ := cs
    cases l with
    | nil => exact VR.tuple _ _ .nil
    | cons _ _ => simp at h
  · exact plainCell_refl h
end
end Go.Proofs.Ytpdhkonifbdckaa.Abs
