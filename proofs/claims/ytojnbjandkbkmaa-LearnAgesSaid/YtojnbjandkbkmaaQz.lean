/- The laws' helpers: numbers that are picked, tables that are filled. -/
import Derived.Test.YtojnbjandkbkmaaQv
import Derived.Test.YtojnbjandkbkmaaQw
import Derived.Test.YtojnbjandkbkmaaTop
namespace Go.Proofs.Ytojnbjandkbkmaa.Abs
open Go
set_option linter.unusedVariables false
def fillN (A : List S37) : List S37 := A.foldl (fun L e => (learnN L e false).1) []
theorem rmN_len (k : Kk) (L : List S37) : (rmN k L).length ≤ L.length := List.length_filter_le _ _
theorem putN_len (L : List S37) (e : S37) : (putN L e).length ≤ L.length + 1 := by
  unfold putN
  rw [(insN_perm _ _).length_eq, List.length_cons, List.length_map]
  have := rmN_len (kOf e) L
  omega
theorem learnN_len (L : List S37) (e : S37) (fz : Bool) : (learnN L e fz).1.length ≤ L.length + 1 := by
  unfold learnN
  split
  · exact Nat.le_succ _
  · split
    · split
      · exact Nat.le_succ _
      · exact putN_len _ _
    · split
      · exact Nat.le_succ _
      · exact putN_len _ _
theorem fillN_snoc (A : List S37) (e : S37) : fillN (A ++ [e]) = (learnN (fillN A) e false).1 := by unfold fillN; rw [List.foldl_append]; rfl
theorem fill_len : ∀ (A L : List S37), (A.foldl (fun L e => (learnN L e false).1) L).length ≤ L.length + A.length
  | [], L => Nat.le_refl _
  | e :: A, L => by
    have h1 := fill_len A (learnN L e false).1
    have h2 := learnN_len L e false
    rw [List.foldl_cons, List.length_cons]
    omega
theorem fillN_len (A : List S37) : (fillN A).length ≤ A.length := by
  have := fill_len A []
  rw [List.length_nil, Nat.zero_add] at this
  exact this
theorem find_put {L : List S37} {e : S37} (h : SrtN (putN L e)) : findN (putN L e) (kOf e) = some e := (findN_iff h).2 ⟨putN_mem.2 (.inl rfl), rfl⟩
theorem learn_some {L : List S37} {e o : S37} {fz : Bool} (hc : chkN e = 0) (hf : findN L (kOf e) = some o) (hn : ¬ (o.a1 ≠ e.a1 ∧ fz = true)) : learnN L e fz = (putN L (mrg o e), decide (o.a1 ≠ e.a1), 0) := by
  unfold learnN; rw [if_neg (fun g => g hc), hf]; dsimp only; rw [if_neg hn]
theorem learn_froz {L : List S37} {e o : S37} (hc : chkN e = 0) (hf : findN L (kOf e) = some o) (h : o.a1 ≠ e.a1) : learnN L e true = (L, false, 9) := by
  unfold learnN; rw [if_neg (fun g => g hc), hf]; dsimp only; rw [if_pos ⟨h, rfl⟩]
theorem learn_new {L : List S37} {e : S37} {fz : Bool} (hc : chkN e = 0) (hf : findN L (kOf e) = none) (hl : L.length < 1024) : learnN L e fz = (putN L e, false, 0) := by
  unfold learnN; rw [if_neg (fun g => g hc), hf]; dsimp only; rw [if_neg (by omega)]
theorem learn_bad {L : List S37} {e : S37} {fz : Bool} (hc : chkN e ≠ 0) : learnN L e fz = (L, false, chkN e) := by unfold learnN; rw [if_pos hc]
theorem mrg_a1 (o e : S37) : (mrg o e).a1 = e.a1 := by unfold mrg; split <;> rfl
theorem mrg_ne {o e : S37} (h : o.a1 ≠ e.a1) : mrg o e = e := by unfold mrg; rw [if_neg h]
/-- An accepted entry is found, on its segment. -/
theorem learn_ok {L : List S37} {e : S37} {fz : Bool} (hl : L.length < 1024) (h : (learnN L e fz).2.2 = 0) (hs : SrtN (learnN L e fz).1) : chkN e = 0 ∧ ∃ x, findN (learnN L e fz).1 (kOf e) = some x ∧ x.a1 = e.a1 := by
  by_cases hc : chkN e = 0
  · refine ⟨hc, ?_⟩
    cases hf : findN L (kOf e) with
    | none =>
      rw [learn_new hc hf hl] at hs ⊢
      exact ⟨e, find_put hs, rfl⟩
    | some o =>
      by_cases hn : o.a1 ≠ e.a1 ∧ fz = true
      · obtain ⟨h1, rfl⟩ := hn
        rw [learn_froz hc hf h1] at h
        cases h
      · rw [learn_some hc hf hn] at hs ⊢
        refine ⟨mrg o e, ?_, mrg_a1 o e⟩
        have := find_put hs
        rwa [kOf_mrg] at this
  · rw [learn_bad hc] at h
    exact absurd h hc
theorem chk_seg {e : S37} (h : chkN e = 0) (hw : e.wf) {r : Int} (h0 : 0 ≤ r) (h1 : r < 64) : chkN { e with a1 := r } = 0 ∧ S37.wf { e with a1 := r } := by
  unfold S37.wf at hw ⊢
  refine ⟨?_, by dsimp only; omega⟩
  unfold chkN at h ⊢
  split at h
  · cases h
  · rename_i g1
    split at h
    · cases h
    · rename_i g2
      dsimp only
      rw [if_neg (by omega), if_neg g2]
theorem chk_rng {e : S37} (h : chkN e = 0) : 0 ≤ e.a1 ∧ e.a1 < 64 := by
  unfold chkN at h
  split at h
  · cases h
  · omega
section
variable {B0 : Nat} {old : Nat → Option (List Value)} {n : Nat} {H G : Hp} {Q : Value → Hp → Prop} {v : Value} {age : Int} {L A B : List S37}
set_option maxRecDepth 10000
set_option maxHeartbeats 8000000
theorem pick14_ct (x m : Int) (h0 : 0 < m) (hm : m ≤ 4611686018427387904) (hQ : ∀ r : Int, 0 ≤ r → r < m → Q (.int .i64 r) H) : CallT (cx B0 old) (acall (cx B0 old) ansP (n + 1)) 14 [.int .i64 x, .int .i64 m] H Q := by
  refine call_in2 14 rfl Try.func14 rfl rfl ?_
  have h1 := Int.tmod_lt_of_pos x h0
  have h2 := Int.lt_tmod_of_pos x h0
  repeat (first | refine Z0 ?_ | (refine ZR ?_; first | refine x1 ?_ | refine x2 ?_ | refine x8 ?_ | refine Z1 ?_ | refine Z2 ?_ | refine x3 fun _ => ?_ | refine x4 fun _ => ?_ | refine x5 fun _ => ?_ | refine Z3 fun _ => ?_ | refine Z4 fun _ => ?_) | refine Za ?_ | refine Zb ?_ | refine Zl ?_ | refine Zc ?_ | refine Ze ?_ | refine Zi ?_ | refine Zj ?_ | refine Zf ?_ | refine Zg ?_ | refine Zm ?_ | refine Zn ?_ | refine Zo ?_ | refine Zp ?_ | refine Zq ?_ | refine Zr ?_ | refine Zk ?_)
  apply rt_p rfl rfl rfl
  case hp => exact p_rem rfl rfl (by omega)
  generalize x.tmod m = r at *
  repeat (first | refine Z0 ?_ | (refine ZR ?_; first | refine x1 ?_ | refine x2 ?_ | refine x8 ?_ | refine Z1 ?_ | refine Z2 ?_ | refine x3 fun _ => ?_ | refine x4 fun _ => ?_ | refine x5 fun _ => ?_ | refine Z3 fun _ => ?_ | refine Z4 fun _ => ?_) | refine Za ?_ | refine Zb ?_ | refine Zl ?_ | refine Zc ?_ | refine Ze ?_ | refine Zi ?_ | refine Zj ?_ | refine Zf ?_ | refine Zg ?_ | refine Zm ?_ | refine Zn ?_ | refine Zo ?_ | refine Zp ?_ | refine Zq ?_ | refine Zr ?_ | refine Zk ?_)
  refine ct_condT te_d rfl (fun hc => ?_) (fun hc => ?_)
  · repeat (first | refine Z0 ?_ | (refine ZR ?_; first | refine x1 ?_ | refine x2 ?_ | refine x8 ?_ | refine Z1 ?_ | refine Z2 ?_ | refine x3 fun _ => ?_ | refine x4 fun _ => ?_ | refine x5 fun _ => ?_ | refine Z3 fun _ => ?_ | refine Z4 fun _ => ?_) | refine Za ?_ | refine Zb ?_ | refine Zl ?_ | refine Zc ?_ | refine Ze ?_ | refine Zi ?_ | refine Zj ?_ | refine Zf ?_ | refine Zg ?_ | refine Zm ?_ | refine Zn ?_ | refine Zo ?_ | refine Zp ?_ | refine Zq ?_ | refine Zr ?_ | refine Zk ?_)
    exact re_1 rfl rfl (List.Sublist.refl _) (hQ _ (by omega) (by omega))
  · repeat (first | refine Z0 ?_ | (refine ZR ?_; first | refine x1 ?_ | refine x2 ?_ | refine x8 ?_ | refine Z1 ?_ | refine Z2 ?_ | refine x3 fun _ => ?_ | refine x4 fun _ => ?_ | refine x5 fun _ => ?_ | refine Z3 fun _ => ?_ | refine Z4 fun _ => ?_) | refine Za ?_ | refine Zb ?_ | refine Zl ?_ | refine Zc ?_ | refine Ze ?_ | refine Zi ?_ | refine Zj ?_ | refine Zf ?_ | refine Zg ?_ | refine Zm ?_ | refine Zn ?_ | refine Zo ?_ | refine Zp ?_ | refine Zq ?_ | refine Zr ?_ | refine Zk ?_)
    exact re_1 rfl rfl (List.Sublist.refl _) (hQ _ (by omega) (by omega))
theorem filled27_ct {ad : Option Addr} {c : Nat} (h1 : Arr (cx B0 old) H ad 6 en37 A) (hw : ∀ x ∈ A, x.wf) (hl : A.length ≤ 1000) (hQ : ∀ v G, TbP v 20 (fillN A) G → Q v (G ++ H)) :
    CallT (cx B0 old) (acall (cx B0 old) ansP (n + 4)) 27 [.slice ad A.length c] H Q := by
  refine call_in1 29 rfl Try.func27 rfl rfl ?_
  repeat (first | refine Z0 ?_ | (refine ZR ?_; first | refine x1 ?_ | refine x2 ?_ | refine x8 ?_ | refine Z1 ?_ | refine Z2 ?_ | refine x3 fun _ => ?_ | refine x4 fun _ => ?_ | refine x5 fun _ => ?_ | refine Z3 fun _ => ?_ | refine Z4 fun _ => ?_) | refine Za ?_ | refine Zb ?_ | refine Zl ?_ | refine Zc ?_ | refine Ze ?_ | refine Zi ?_ | refine Zj ?_ | refine Zf ?_ | refine Zg ?_ | refine Zm ?_ | refine Zn ?_ | refine Zo ?_ | refine Zp ?_ | refine Zq ?_ | refine Zr ?_ | refine Zk ?_)
  refine rt_step rfl rfl rfl (st_call rfl rfl rfl rfl (newW 20 (fun h => absurd h (by decide)) (fun _ v G hT => ?_)))
  obtain ⟨p, rfl⟩ := hT.ptr
  repeat (first | refine Z0 ?_ | (refine ZR ?_; first | refine x1 ?_ | refine x2 ?_ | refine x8 ?_ | refine Z1 ?_ | refine Z2 ?_ | refine x3 fun _ => ?_ | refine x4 fun _ => ?_ | refine x5 fun _ => ?_ | refine Z3 fun _ => ?_ | refine Z4 fun _ => ?_) | refine Za ?_ | refine Zb ?_ | refine Zl ?_ | refine Zc ?_ | refine Ze ?_ | refine Zi ?_ | refine Zj ?_ | refine Zf ?_ | refine Zg ?_ | refine Zm ?_ | refine Zn ?_ | refine Zo ?_ | refine Zp ?_ | refine Zq ?_ | refine Zr ?_ | refine Zk ?_)
  refine loop_ind (ι := Nat × Hp) (0, G) (fun i => A.length - i.1) (fun i => i.1 ≤ A.length ∧ TbP (.pointer (some ⟨p, 0, none⟩)) 20 (fillN (A.take i.1)) i.2)
    (fun i => [(5, .int .i64 (i.1 : Int)), (3, .pointer (some ⟨p, 0, none⟩)), (0, .slice ad A.length c)]) (fun i => i.2 ++ H) ⟨Nat.zero_le _, hT⟩ (by repeat (first | exact SubL.nil | refine SubL.cons rfl ?_)) (List.Sublist.refl _) ?_
  clear hT
  rintro ⟨i, G⟩ ⟨hi, hT⟩
  dsimp only at hi hT ⊢
  repeat (first | refine Z0 ?_ | (refine ZR ?_; first | refine x1 ?_ | refine x2 ?_ | refine x8 ?_ | refine Z1 ?_ | refine Z2 ?_ | refine x3 fun _ => ?_ | refine x4 fun _ => ?_ | refine x5 fun _ => ?_ | refine Z3 fun _ => ?_ | refine Z4 fun _ => ?_) | refine Za ?_ | refine Zb ?_ | refine Zl ?_ | refine Zc ?_ | refine Ze ?_ | refine Zi ?_ | refine Zj ?_ | refine Zf ?_ | refine Zg ?_ | refine Zm ?_ | refine Zn ?_ | refine Zo ?_ | refine Zp ?_ | refine Zq ?_ | refine Zr ?_ | refine Zk ?_)
  refine ct_condT te_d rfl (fun hc => ?_) (fun hc => ?_)
  rotate_left
  · obtain rfl : i = A.length := by omega
    rw [List.take_length] at hT
    repeat (first | refine Z0 ?_ | (refine ZR ?_; first | refine x1 ?_ | refine x2 ?_ | refine x8 ?_ | refine Z1 ?_ | refine Z2 ?_ | refine x3 fun _ => ?_ | refine x4 fun _ => ?_ | refine x5 fun _ => ?_ | refine Z3 fun _ => ?_ | refine Z4 fun _ => ?_) | refine Za ?_ | refine Zb ?_ | refine Zl ?_ | refine Zc ?_ | refine Ze ?_ | refine Zi ?_ | refine Zj ?_ | refine Zf ?_ | refine Zg ?_ | refine Zm ?_ | refine Zn ?_ | refine Zo ?_ | refine Zp ?_ | refine Zq ?_ | refine Zr ?_ | refine Zk ?_)
    exact re_1 rfl rfl (List.Sublist.refl _) (hQ _ G hT)
  have hlt : i < A.length := by omega
  have hx := List.getElem?_eq_getElem hlt
  have htk : A.take (i + 1) = A.take i ++ [A[i]] := by rw [List.take_add_one, hx]; rfl
  have hxw := hw _ (List.getElem_mem hlt)
  generalize A[i] = x at *
  obtain ⟨b1, o1, e1, hL0⟩ := (h1.weak (List.sublist_append_right G H)).ldW 37 hx rfl (sz rfl)
  subst e1
  have hl2 := fillN_len (A.take i)
  rw [List.length_take] at hl2
  have hlW := fun {Q' : Value → Hp → Prop} => learnW (B0 := B0) (old := old) (n := n) (H := H) (Q := Q') hT x hxw false (by omega)
  unfold en37 at hL0 hlW
  repeat (first | refine Z0 ?_ | (refine ZR ?_; first | refine x1 ?_ | refine x2 ?_ | refine x8 ?_ | refine Z1 ?_ | refine Z2 ?_ | refine x3 fun _ => ?_ | refine x4 fun _ => ?_ | refine x5 fun _ => ?_ | refine Z3 fun _ => ?_ | refine Z4 fun _ => ?_) | refine Za ?_ | refine Zb ?_ | refine Zl ?_ | refine Zc ?_ | refine Ze ?_ | refine Zi ?_ | refine Zj ?_ | refine Zf ?_ | refine Zg ?_ | refine Zm ?_ | refine Zn ?_ | refine Zo ?_ | refine Zp ?_ | refine Zq ?_ | refine Zr ?_ | refine Zk ?_)
  refine rt_step rfl rfl rfl (st_call rfl rfl rfl rfl (hlW fun G' hT' => ?_))
  rw [← fillN_snoc, ← htk] at hT'
  repeat (first | refine Z0 ?_ | (refine ZR ?_; first | refine x1 ?_ | refine x2 ?_ | refine x8 ?_ | refine Z1 ?_ | refine Z2 ?_ | refine x3 fun _ => ?_ | refine x4 fun _ => ?_ | refine x5 fun _ => ?_ | refine Z3 fun _ => ?_ | refine Z4 fun _ => ?_) | refine Za ?_ | refine Zb ?_ | refine Zl ?_ | refine Zc ?_ | refine Ze ?_ | refine Zi ?_ | refine Zj ?_ | refine Zf ?_ | refine Zg ?_ | refine Zm ?_ | refine Zn ?_ | refine Zo ?_ | refine Zp ?_ | refine Zq ?_ | refine Zr ?_ | refine Zk ?_)
  exact ⟨(i + 1, G'), ⟨by dsimp only; omega, hT'⟩, by dsimp only; omega, by repeat (first | exact SubL.nil | refine SubL.cons rfl ?_), List.Sublist.refl _⟩
end
end Go.Proofs.Ytojnbjandkbkmaa.Abs

/- The contract of the statement LearnAges. -/
namespace Go.Proofs.Ytojnbjandkbkmaa.Abs
open Go
set_option linter.unusedVariables false
theorem fl_le (p : S37 → Bool) {W : List S37} {i : Nat} {y : S37} (h : i ≤ 1000) : 2 * (((W.take i).filter p).length + [y].length) + 192 ≤ 6000 := by
  have h1 := List.length_filter_le p (W.take i)
  have h2 : (W.take i).length ≤ i := by rw [List.length_take]; omega
  have h3 : [y].length = 1 := rfl
  omega
theorem fl_le2 (p q : S37 → Bool) {W : List S37} {i : Nat} {y : S37} (h : i ≤ 1000) : 2 * ((((W.take i).filter p).filter q).length + [y].length) + 192 ≤ 6000 := by
  have h0 := List.length_filter_le q ((W.take i).filter p)
  have h1 := fl_le p (W := W) (y := y) h
  omega
theorem ag_p1 {a b : Nat × AObj} {A B R : Hp} : ((a :: b :: (A ++ B)) ++ R).Perm (a :: ((b :: A) ++ (B ++ R))) := by
  rw [List.cons_append, List.cons_append, List.append_assoc]
  exact List.Perm.refl _
theorem ag_p2 {a b : Nat × AObj} {A B D R : Hp} : ((a :: b :: (A ++ (B ++ D))) ++ R).Perm (a :: ((b :: A) ++ (B ++ (D ++ R)))) := by
  rw [List.cons_append, List.cons_append, List.append_assoc, List.append_assoc]
  exact List.Perm.refl _
theorem ag_p4 {A B D E G R : Hp} : (G ++ (A ++ (B ++ (D ++ (E ++ R))))).Perm (A ++ (B ++ (D ++ (E ++ (G ++ R))))) := by
  refine (List.perm_append_comm_assoc G A _).trans (List.Perm.append_left A ?_)
  refine (List.perm_append_comm_assoc G B _).trans (List.Perm.append_left B ?_)
  refine (List.perm_append_comm_assoc G D _).trans (List.Perm.append_left D ?_)
  exact List.perm_append_comm_assoc G E _
theorem ag_s1 {a b : Nat × AObj} {A B D R : Hp} : (A ++ (B ++ (D ++ R))).Sublist ((a :: b :: (A ++ B)) ++ (D ++ R)) := by
  rw [List.cons_append, List.cons_append, List.append_assoc]
  exact List.Sublist.cons _ (List.Sublist.cons _ (List.Sublist.refl _))
theorem ag_s2 {a b : Nat × AObj} {A B D E R : Hp} : (A ++ (B ++ (D ++ (E ++ R)))).Sublist ((a :: b :: (A ++ (B ++ D))) ++ (E ++ R)) := by
  rw [List.cons_append, List.cons_append, List.append_assoc, List.append_assoc]
  exact List.Sublist.cons _ (List.Sublist.cons _ (List.Sublist.refl _))
theorem fl_yes {p : S37 → Bool} {l : List S37} {y : S37} (h : p y = true) : (l ++ [y]).filter p = l.filter p ++ [y] := by rw [List.filter_append, List.filter_cons_of_pos h, List.filter_nil]
theorem fl_no {p : S37 → Bool} {l : List S37} {y : S37} (h : p y = false) : (l ++ [y]).filter p = l.filter p := by rw [List.filter_append, List.filter_cons_of_neg (by rw [h]; decide), List.filter_nil, List.append_nil]
structure AgI where
  i : Nat
  v2 : Value
  v3 : Value
  v4 : Value
  v5 : Value
  g2 : Hp
  g3 : Hp
  g4 : Hp
  g5 : Hp
section
variable {B0 : Nat} {old : Nat → Option (List Value)} {n : Nat} {H G : Hp} {Q : Value → Hp → Prop} {v : Value} {age : Int} {L A : List S37} {a : S37} {i w : Nat} {ad : Option Addr} {C : Ctx} {en : S37 → List Value}
theorem arr_ldF (h : Arr C H ad w en L) (t : TypeId) (f : Nat) {v : Value} (hi : L[i]? = some a) (hv : (en a)[f]? = some v) (hf : Nat.blt f w = true) (hg : aggAt C t = some false) {n : Nat} (hn : sizeAt C t = some n) : ∃ b o, ad = some ⟨b, o, none⟩ ∧ ∀ H', H.Sublist H' → LdT C t H' b (o + i * w + f) v := by
  obtain ⟨b, o, e, h1⟩ := h.fld hi
  refine ⟨b, o, e, fun H' hs => ?_⟩
  unfold LdT
  exact fun l y hy => h1 f n v t H' l y hs hv (Nat.le_of_ble_eq_true hf) hg hn hy
set_option maxRecDepth 10000
set_option maxHeartbeats 8000000
theorem ages7_ct {c : Nat} (h1 : Arr (cx B0 old) H ad 6 en37 A) (hw : ∀ x ∈ A, x.wf) (now seg : Int) (hQ : ∀ H', Q (.bool true) H') :
    CallT (cx B0 old) (acall (cx B0 old) ansP (n + 1521)) 7 [.slice ad A.length c, .int .i64 now, .int .i64 seg] H Q := by
  refine call_in3 149 rfl Try.func7 rfl rfl ?_
  repeat (first | refine Z0 ?_ | (refine ZR ?_; first | refine x1 ?_ | refine x2 ?_ | refine x8 ?_ | refine Z1 ?_ | refine Z2 ?_ | refine x3 fun _ => ?_ | refine x4 fun _ => ?_ | refine x5 fun _ => ?_ | refine Z3 fun _ => ?_ | refine Z4 fun _ => ?_) | refine Za ?_ | refine Zb ?_ | refine Zl ?_ | refine Zc ?_ | refine Ze ?_ | refine Zi ?_ | refine Zj ?_ | refine Zf ?_ | refine Zg ?_ | refine Zm ?_ | refine Zn ?_ | refine Zo ?_ | refine Zp ?_ | refine Zq ?_ | refine Zr ?_ | refine Zk ?_)
  refine rt_step rfl rfl rfl (st_call rfl rfl rfl rfl (known4_ct ?_))
  repeat (first | refine Z0 ?_ | (refine ZR ?_; first | refine x1 ?_ | refine x2 ?_ | refine x8 ?_ | refine Z1 ?_ | refine Z2 ?_ | refine x3 fun _ => ?_ | refine x4 fun _ => ?_ | refine x5 fun _ => ?_ | refine Z3 fun _ => ?_ | refine Z4 fun _ => ?_) | refine Za ?_ | refine Zb ?_ | refine Zl ?_ | refine Zc ?_ | refine Ze ?_ | refine Zi ?_ | refine Zj ?_ | refine Zf ?_ | refine Zg ?_ | refine Zm ?_ | refine Zn ?_ | refine Zo ?_ | refine Zp ?_ | refine Zq ?_ | refine Zr ?_ | refine Zk ?_)
  refine ct_condT te_d rfl (fun hc => ?_) (fun hc => ?_)
  · repeat (first | refine Z0 ?_ | (refine ZR ?_; first | refine x1 ?_ | refine x2 ?_ | refine x8 ?_ | refine Z1 ?_ | refine Z2 ?_ | refine x3 fun _ => ?_ | refine x4 fun _ => ?_ | refine x5 fun _ => ?_ | refine Z3 fun _ => ?_ | refine Z4 fun _ => ?_) | refine Za ?_ | refine Zb ?_ | refine Zl ?_ | refine Zc ?_ | refine Ze ?_ | refine Zi ?_ | refine Zj ?_ | refine Zf ?_ | refine Zg ?_ | refine Zm ?_ | refine Zn ?_ | refine Zo ?_ | refine Zp ?_ | refine Zq ?_ | refine Zr ?_ | refine Zk ?_)
    exact re_1 rfl rfl (List.Sublist.refl _) (hQ _)
  repeat (first | refine Z0 ?_ | (refine ZR ?_; first | refine x1 ?_ | refine x2 ?_ | refine x8 ?_ | refine Z1 ?_ | refine Z2 ?_ | refine x3 fun _ => ?_ | refine x4 fun _ => ?_ | refine x5 fun _ => ?_ | refine Z3 fun _ => ?_ | refine Z4 fun _ => ?_) | refine Za ?_ | refine Zb ?_ | refine Zl ?_ | refine Zc ?_ | refine Ze ?_ | refine Zi ?_ | refine Zj ?_ | refine Zf ?_ | refine Zg ?_ | refine Zm ?_ | refine Zn ?_ | refine Zo ?_ | refine Zp ?_ | refine Zq ?_ | refine Zr ?_ | refine Zk ?_)
  refine rt_step rfl rfl rfl (st_call rfl rfl rfl rfl (filled27_ct (n := n + 1516) (h1.weak (by exact drop_auto)) hw (by omega) fun v G hT => ?_))
  obtain ⟨p, rfl⟩ := hT.ptr
  have hfl := fillN_len A
  generalize fillN A = W at *
  clear h1 hw
  repeat (first | refine Z0 ?_ | (refine ZR ?_; first | refine x1 ?_ | refine x2 ?_ | refine x8 ?_ | refine Z1 ?_ | refine Z2 ?_ | refine x3 fun _ => ?_ | refine x4 fun _ => ?_ | refine x5 fun _ => ?_ | refine Z3 fun _ => ?_ | refine Z4 fun _ => ?_) | refine Za ?_ | refine Zb ?_ | refine Zl ?_ | refine Zc ?_ | refine Ze ?_ | refine Zi ?_ | refine Zj ?_ | refine Zf ?_ | refine Zg ?_ | refine Zm ?_ | refine Zn ?_ | refine Zo ?_ | refine Zp ?_ | refine Zq ?_ | refine Zr ?_ | refine Zk ?_)
  refine rt_step rfl rfl rfl (st_call rfl rfl rfl rfl (CallT.fuel (allW (n := n + 4) hT (by omega) fun w Gw ow => ?_) rfl))
  obtain ⟨adw, cw, ew, gw⟩ := ow.arrW (C := cx B0 old) en37_len
  subst ew
  repeat (first | refine Z0 ?_ | (refine ZR ?_; first | refine x1 ?_ | refine x2 ?_ | refine x8 ?_ | refine Z1 ?_ | refine Z2 ?_ | refine x3 fun _ => ?_ | refine x4 fun _ => ?_ | refine x5 fun _ => ?_ | refine Z3 fun _ => ?_ | refine Z4 fun _ => ?_) | refine Za ?_ | refine Zb ?_ | refine Zl ?_ | refine Zc ?_ | refine Ze ?_ | refine Zi ?_ | refine Zj ?_ | refine Zf ?_ | refine Zg ?_ | refine Zm ?_ | refine Zn ?_ | refine Zo ?_ | refine Zp ?_ | refine Zq ?_ | refine Zr ?_ | refine Zk ?_)
  refine rt_step rfl rfl rfl (st_call rfl rfl rfl rfl (CallT.fuel (CallT.perm (ageW (n := n + 3) hT (by omega) now (fun hbad => ?_) fun hok w Ga G' hT' oa => ?_) (List.perm_append_comm_assoc _ _ _)) rfl))
  · repeat (first | refine Z0 ?_ | (refine ZR ?_; first | refine x1 ?_ | refine x2 ?_ | refine x8 ?_ | refine Z1 ?_ | refine Z2 ?_ | refine x3 fun _ => ?_ | refine x4 fun _ => ?_ | refine x5 fun _ => ?_ | refine Z3 fun _ => ?_ | refine Z4 fun _ => ?_) | refine Za ?_ | refine Zb ?_ | refine Zl ?_ | refine Zc ?_ | refine Ze ?_ | refine Zi ?_ | refine Zj ?_ | refine Zf ?_ | refine Zg ?_ | refine Zm ?_ | refine Zn ?_ | refine Zo ?_ | refine Zp ?_ | refine Zq ?_ | refine Zr ?_ | refine Zk ?_)
    by_cases hneg : now < 0
    · rw [show decide (now < 0) = true from decide_eq_true hneg]
      repeat (first | refine Z0 ?_ | (refine ZR ?_; first | refine x1 ?_ | refine x2 ?_ | refine x8 ?_ | refine Z1 ?_ | refine Z2 ?_ | refine x3 fun _ => ?_ | refine x4 fun _ => ?_ | refine x5 fun _ => ?_ | refine Z3 fun _ => ?_ | refine Z4 fun _ => ?_) | refine Za ?_ | refine Zb ?_ | refine Zl ?_ | refine Zc ?_ | refine Ze ?_ | refine Zi ?_ | refine Zj ?_ | refine Zf ?_ | refine Zg ?_ | refine Zm ?_ | refine Zn ?_ | refine Zo ?_ | refine Zp ?_ | refine Zq ?_ | refine Zr ?_ | refine Zk ?_)
      refine rt_step rfl rfl rfl (st_call rfl rfl rfl rfl (CallT.fuel (allW (n := n + 4) hT (by omega) fun w Gb ob => ?_) rfl))
      obtain ⟨adb, cb, eb, gb⟩ := ob.arrW (C := cx B0 old) en37_len
      subst eb
      repeat (first | refine Z0 ?_ | (refine ZR ?_; first | refine x1 ?_ | refine x2 ?_ | refine x8 ?_ | refine Z1 ?_ | refine Z2 ?_ | refine x3 fun _ => ?_ | refine x4 fun _ => ?_ | refine x5 fun _ => ?_ | refine Z3 fun _ => ?_ | refine Z4 fun _ => ?_) | refine Za ?_ | refine Zb ?_ | refine Zl ?_ | refine Zc ?_ | refine Ze ?_ | refine Zi ?_ | refine Zj ?_ | refine Zf ?_ | refine Zg ?_ | refine Zm ?_ | refine Zn ?_ | refine Zo ?_ | refine Zp ?_ | refine Zq ?_ | refine Zr ?_ | refine Zk ?_)
      refine rt_step rfl rfl rfl (st_call rfl rfl rfl rfl (same18_ct (((gb [] _).arr en37_len).weak (List.Sublist.refl _)) (((gw [] _).arr en37_len).weak (by exact drop_auto)) (by omega) ?_))
      repeat (first | refine Z0 ?_ | (refine ZR ?_; first | refine x1 ?_ | refine x2 ?_ | refine x8 ?_ | refine Z1 ?_ | refine Z2 ?_ | refine x3 fun _ => ?_ | refine x4 fun _ => ?_ | refine x5 fun _ => ?_ | refine Z3 fun _ => ?_ | refine Z4 fun _ => ?_) | refine Za ?_ | refine Zb ?_ | refine Zl ?_ | refine Zc ?_ | refine Ze ?_ | refine Zi ?_ | refine Zj ?_ | refine Zf ?_ | refine Zg ?_ | refine Zm ?_ | refine Zn ?_ | refine Zo ?_ | refine Zp ?_ | refine Zq ?_ | refine Zr ?_ | refine Zk ?_)
      exact re_1 rfl rfl (List.Sublist.refl _) (hQ _)
    · rw [show decide (now < 0) = false from decide_eq_false hneg]
      repeat (first | refine Z0 ?_ | (refine ZR ?_; first | refine x1 ?_ | refine x2 ?_ | refine x8 ?_ | refine Z1 ?_ | refine Z2 ?_ | refine x3 fun _ => ?_ | refine x4 fun _ => ?_ | refine x5 fun _ => ?_ | refine Z3 fun _ => ?_ | refine Z4 fun _ => ?_) | refine Za ?_ | refine Zb ?_ | refine Zl ?_ | refine Zc ?_ | refine Ze ?_ | refine Zi ?_ | refine Zj ?_ | refine Zf ?_ | refine Zg ?_ | refine Zm ?_ | refine Zn ?_ | refine Zo ?_ | refine Zp ?_ | refine Zq ?_ | refine Zr ?_ | refine Zk ?_)
      rw [show decide (now > 1099511627776) = true from decide_eq_true (by omega)]
      repeat (first | refine Z0 ?_ | (refine ZR ?_; first | refine x1 ?_ | refine x2 ?_ | refine x8 ?_ | refine Z1 ?_ | refine Z2 ?_ | refine x3 fun _ => ?_ | refine x4 fun _ => ?_ | refine x5 fun _ => ?_ | refine Z3 fun _ => ?_ | refine Z4 fun _ => ?_) | refine Za ?_ | refine Zb ?_ | refine Zl ?_ | refine Zc ?_ | refine Ze ?_ | refine Zi ?_ | refine Zj ?_ | refine Zf ?_ | refine Zg ?_ | refine Zm ?_ | refine Zn ?_ | refine Zo ?_ | refine Zp ?_ | refine Zq ?_ | refine Zr ?_ | refine Zk ?_)
      refine rt_step rfl rfl rfl (st_call rfl rfl rfl rfl (CallT.fuel (allW (n := n + 4) hT (by omega) fun w Gb ob => ?_) rfl))
      obtain ⟨adb, cb, eb, gb⟩ := ob.arrW (C := cx B0 old) en37_len
      subst eb
      repeat (first | refine Z0 ?_ | (refine ZR ?_; first | refine x1 ?_ | refine x2 ?_ | refine x8 ?_ | refine Z1 ?_ | refine Z2 ?_ | refine x3 fun _ => ?_ | refine x4 fun _ => ?_ | refine x5 fun _ => ?_ | refine Z3 fun _ => ?_ | refine Z4 fun _ => ?_) | refine Za ?_ | refine Zb ?_ | refine Zl ?_ | refine Zc ?_ | refine Ze ?_ | refine Zi ?_ | refine Zj ?_ | refine Zf ?_ | refine Zg ?_ | refine Zm ?_ | refine Zn ?_ | refine Zo ?_ | refine Zp ?_ | refine Zq ?_ | refine Zr ?_ | refine Zk ?_)
      refine rt_step rfl rfl rfl (st_call rfl rfl rfl rfl (same18_ct (((gb [] _).arr en37_len).weak (List.Sublist.refl _)) (((gw [] _).arr en37_len).weak (by exact drop_auto)) (by omega) ?_))
      repeat (first | refine Z0 ?_ | (refine ZR ?_; first | refine x1 ?_ | refine x2 ?_ | refine x8 ?_ | refine Z1 ?_ | refine Z2 ?_ | refine x3 fun _ => ?_ | refine x4 fun _ => ?_ | refine x5 fun _ => ?_ | refine Z3 fun _ => ?_ | refine Z4 fun _ => ?_) | refine Za ?_ | refine Zb ?_ | refine Zl ?_ | refine Zc ?_ | refine Ze ?_ | refine Zi ?_ | refine Zj ?_ | refine Zf ?_ | refine Zg ?_ | refine Zm ?_ | refine Zn ?_ | refine Zo ?_ | refine Zp ?_ | refine Zq ?_ | refine Zr ?_ | refine Zk ?_)
      exact re_1 rfl rfl (List.Sublist.refl _) (hQ _)
  obtain ⟨ada, ca, ea, ga⟩ := oa.arrW (C := cx B0 old) en37_len
  subst ea
  have hsr := hT.srt.2
  clear hT
  have haw : Arr (cx B0 old) (Gw ++ H) adw 6 en37 W := (gw [] H).arr en37_len
  clear gw
  refine RunT.perm ?_ (List.perm_append_comm_assoc G' Ga _)
  repeat (first | refine Z0 ?_ | (refine ZR ?_; first | refine x1 ?_ | refine x2 ?_ | refine x8 ?_ | refine Z1 ?_ | refine Z2 ?_ | refine x3 fun _ => ?_ | refine x4 fun _ => ?_ | refine x5 fun _ => ?_ | refine Z3 fun _ => ?_ | refine Z4 fun _ => ?_) | refine Za ?_ | refine Zb ?_ | refine Zl ?_ | refine Zc ?_ | refine Ze ?_ | refine Zi ?_ | refine Zj ?_ | refine Zf ?_ | refine Zg ?_ | refine Zm ?_ | refine Zn ?_ | refine Zo ?_ | refine Zp ?_ | refine Zq ?_ | refine Zr ?_ | refine Zk ?_)
  refine loop_ind (ι := AgI) ⟨0, .slice none 0 0, .slice none 0 0, .slice none 0 0, .slice none 0 0, [], [], [], []⟩ (fun j => W.length - j.i) (fun j => j.i ≤ W.length ∧ Own en37 6 ((W.take j.i).filter (ageP now 20)) j.v2 j.g2 ∧ Own en37 6 ((W.take j.i).filter fun x => !ageP now 20 x) j.v3 j.g3 ∧
      Own en37 6 (((W.take j.i).filter fun x => !ageP now 20 x).filter (segP seg)) j.v4 j.g4 ∧ Own en37 6 (((W.take j.i).filter fun x => !ageP now 20 x).filter fun x => !segP seg x) j.v5 j.g5)
    (fun j => [(16, .int .i64 (j.i : Int)), (12, j.v2), (13, j.v3), (14, j.v4), (15, j.v5), (1, .int .i64 now), (2, .int .i64 seg), (7, .bool true), (8, .pointer (some ⟨p, 0, none⟩)), (9, .slice adw W.length cw), (10, .slice ada (W.filter (ageP now 20)).length ca)])
    (fun j => j.g2 ++ (j.g3 ++ (j.g4 ++ (j.g5 ++ (G' ++ (Ga ++ (Gw ++ H))))))) ⟨Nat.zero_le _, Own.nil, Own.nil, Own.nil, Own.nil⟩ (by repeat (first | exact SubL.nil | refine SubL.cons rfl ?_)) (List.Sublist.refl _) ?_
  rintro ⟨i, v2, v3, v4, v5, g2, g3, g4, g5⟩ ⟨hi, o2, o3, o4, o5⟩
  dsimp only at hi o2 o3 o4 o5 ⊢
  repeat (first | refine Z0 ?_ | (refine ZR ?_; first | refine x1 ?_ | refine x2 ?_ | refine x8 ?_ | refine Z1 ?_ | refine Z2 ?_ | refine x3 fun _ => ?_ | refine x4 fun _ => ?_ | refine x5 fun _ => ?_ | refine Z3 fun _ => ?_ | refine Z4 fun _ => ?_) | refine Za ?_ | refine Zb ?_ | refine Zl ?_ | refine Zc ?_ | refine Ze ?_ | refine Zi ?_ | refine Zj ?_ | refine Zf ?_ | refine Zg ?_ | refine Zm ?_ | refine Zn ?_ | refine Zo ?_ | refine Zp ?_ | refine Zq ?_ | refine Zr ?_ | refine Zk ?_)
  refine ct_condT te_d rfl (fun hlt => ?_) (fun hlt => ?_)
  rotate_left
  · obtain rfl : i = W.length := by omega
    rw [List.take_length] at o2 o3 o4 o5
    obtain ⟨ad2, c2, e2, a2⟩ := o2.arrW (C := cx B0 old) en37_len
    obtain ⟨ad3, c3, e3, a3⟩ := o3.arrW (C := cx B0 old) en37_len
    obtain ⟨ad4, c4, e4, a4⟩ := o4.arrW (C := cx B0 old) en37_len
    obtain ⟨ad5, c5, e5, a5⟩ := o5.arrW (C := cx B0 old) en37_len
    subst e2
    subst e3
    subst e4
    subst e5
    have b2 : Arr (cx B0 old) (g2 ++ (g3 ++ (g4 ++ (g5 ++ (Ga ++ (Gw ++ H)))))) ad2 6 en37 _ := (a2 [] _).arr en37_len
    have b3 : Arr (cx B0 old) (g3 ++ (g4 ++ (g5 ++ (Ga ++ (Gw ++ H))))) ad3 6 en37 _ := (a3 [] _).arr en37_len
    have b4 : Arr (cx B0 old) (g4 ++ (g5 ++ (Ga ++ (Gw ++ H)))) ad4 6 en37 _ := (a4 [] _).arr en37_len
    have b5 : Arr (cx B0 old) (g5 ++ (Ga ++ (Gw ++ H))) ad5 6 en37 _ := (a5 [] _).arr en37_len
    have bG : Arr (cx B0 old) (Ga ++ (Gw ++ H)) ada 6 en37 _ := (ga [] _).arr en37_len
    have hL1 := List.length_filter_le (ageP now 20) W
    have hL2 := List.length_filter_le (fun x => !ageP now 20 x) W
    generalize W.filter (fun x => !ageP now 20 x) = B at *
    have hL3 := List.length_filter_le (segP seg) B
    have hL4 := List.length_filter_le (fun x => !segP seg x) B
    repeat (first | refine Z0 ?_ | (refine ZR ?_; first | refine x1 ?_ | refine x2 ?_ | refine x8 ?_ | refine Z1 ?_ | refine Z2 ?_ | refine x3 fun _ => ?_ | refine x4 fun _ => ?_ | refine x5 fun _ => ?_ | refine Z3 fun _ => ?_ | refine Z4 fun _ => ?_) | refine Za ?_ | refine Zb ?_ | refine Zl ?_ | refine Zc ?_ | refine Ze ?_ | refine Zi ?_ | refine Zj ?_ | refine Zf ?_ | refine Zg ?_ | refine Zm ?_ | refine Zn ?_ | refine Zo ?_ | refine Zp ?_ | refine Zq ?_ | refine Zr ?_ | refine Zk ?_)
    refine RunT.perm ?_ ag_p4
    repeat (first | refine Z0 ?_ | (refine ZR ?_; first | refine x1 ?_ | refine x2 ?_ | refine x8 ?_ | refine Z1 ?_ | refine Z2 ?_ | refine x3 fun _ => ?_ | refine x4 fun _ => ?_ | refine x5 fun _ => ?_ | refine Z3 fun _ => ?_ | refine Z4 fun _ => ?_) | refine Za ?_ | refine Zb ?_ | refine Zl ?_ | refine Zc ?_ | refine Ze ?_ | refine Zi ?_ | refine Zj ?_ | refine Zf ?_ | refine Zg ?_ | refine Zm ?_ | refine Zn ?_ | refine Zo ?_ | refine Zp ?_ | refine Zq ?_ | refine Zr ?_ | refine Zk ?_)
    refine rt_step rfl rfl rfl (st_call rfl rfl rfl rfl (same18_ct (bG.weak (by exact drop_auto)) (b2.weak (by exact drop_auto)) (by omega) ?_))
    repeat (first | refine Z0 ?_ | (refine ZR ?_; first | refine x1 ?_ | refine x2 ?_ | refine x8 ?_ | refine Z1 ?_ | refine Z2 ?_ | refine x3 fun _ => ?_ | refine x4 fun _ => ?_ | refine x5 fun _ => ?_ | refine Z3 fun _ => ?_ | refine Z4 fun _ => ?_) | refine Za ?_ | refine Zb ?_ | refine Zl ?_ | refine Zc ?_ | refine Ze ?_ | refine Zi ?_ | refine Zj ?_ | refine Zf ?_ | refine Zg ?_ | refine Zm ?_ | refine Zn ?_ | refine Zo ?_ | refine Zp ?_ | refine Zq ?_ | refine Zr ?_ | refine Zk ?_)
    refine rt_step rfl rfl rfl (st_call rfl rfl rfl rfl (CallT.fuel (allW (n := n + 4) hT' (by omega) fun w Gx ox => ?_) rfl))
    obtain ⟨adx, cx1, ex, ax⟩ := ox.arrW (C := cx B0 old) en37_len
    subst ex
    repeat (first | refine Z0 ?_ | (refine ZR ?_; first | refine x1 ?_ | refine x2 ?_ | refine x8 ?_ | refine Z1 ?_ | refine Z2 ?_ | refine x3 fun _ => ?_ | refine x4 fun _ => ?_ | refine x5 fun _ => ?_ | refine Z3 fun _ => ?_ | refine Z4 fun _ => ?_) | refine Za ?_ | refine Zb ?_ | refine Zl ?_ | refine Zc ?_ | refine Ze ?_ | refine Zi ?_ | refine Zj ?_ | refine Zf ?_ | refine Zg ?_ | refine Zm ?_ | refine Zn ?_ | refine Zo ?_ | refine Zp ?_ | refine Zq ?_ | refine Zr ?_ | refine Zk ?_)
    refine rt_step rfl rfl rfl (st_call rfl rfl rfl rfl (same18_ct (((ax [] _).arr en37_len).weak (List.Sublist.refl _)) (b3.weak (by exact drop_auto)) (by omega) ?_))
    repeat (first | refine Z0 ?_ | (refine ZR ?_; first | refine x1 ?_ | refine x2 ?_ | refine x8 ?_ | refine Z1 ?_ | refine Z2 ?_ | refine x3 fun _ => ?_ | refine x4 fun _ => ?_ | refine x5 fun _ => ?_ | refine Z3 fun _ => ?_ | refine Z4 fun _ => ?_) | refine Za ?_ | refine Zb ?_ | refine Zl ?_ | refine Zc ?_ | refine Ze ?_ | refine Zi ?_ | refine Zj ?_ | refine Zf ?_ | refine Zg ?_ | refine Zm ?_ | refine Zn ?_ | refine Zo ?_ | refine Zp ?_ | refine Zq ?_ | refine Zr ?_ | refine Zk ?_)
    refine rt_step rfl rfl rfl (st_call rfl rfl rfl rfl (CallT.fuel (CallT.perm (dropW (n := n + 3) hT' (by omega) seg fun w Gd G2 hT2 od => ?_) (List.perm_append_comm_assoc _ _ _)) rfl))
    obtain ⟨add, cd, ed, adr⟩ := od.arrW (C := cx B0 old) en37_len
    subst ed
    repeat (first | refine Z0 ?_ | (refine ZR ?_; first | refine x1 ?_ | refine x2 ?_ | refine x8 ?_ | refine Z1 ?_ | refine Z2 ?_ | refine x3 fun _ => ?_ | refine x4 fun _ => ?_ | refine x5 fun _ => ?_ | refine Z3 fun _ => ?_ | refine Z4 fun _ => ?_) | refine Za ?_ | refine Zb ?_ | refine Zl ?_ | refine Zc ?_ | refine Ze ?_ | refine Zi ?_ | refine Zj ?_ | refine Zf ?_ | refine Zg ?_ | refine Zm ?_ | refine Zn ?_ | refine Zo ?_ | refine Zp ?_ | refine Zq ?_ | refine Zr ?_ | refine Zk ?_)
    refine rt_step rfl rfl rfl (st_call rfl rfl rfl rfl (same18_ct (((adr [] _).arr en37_len).weak (List.Sublist.refl _)) (b4.weak (by exact drop_auto)) (by omega) ?_))
    repeat (first | refine Z0 ?_ | (refine ZR ?_; first | refine x1 ?_ | refine x2 ?_ | refine x8 ?_ | refine Z1 ?_ | refine Z2 ?_ | refine x3 fun _ => ?_ | refine x4 fun _ => ?_ | refine x5 fun _ => ?_ | refine Z3 fun _ => ?_ | refine Z4 fun _ => ?_) | refine Za ?_ | refine Zb ?_ | refine Zl ?_ | refine Zc ?_ | refine Ze ?_ | refine Zi ?_ | refine Zj ?_ | refine Zf ?_ | refine Zg ?_ | refine Zm ?_ | refine Zn ?_ | refine Zo ?_ | refine Zp ?_ | refine Zq ?_ | refine Zr ?_ | refine Zk ?_)
    refine rt_step rfl rfl rfl (st_call rfl rfl rfl rfl (CallT.fuel (CallT.perm (allW (n := n + 4) hT2 (by omega) fun w Gy oy => ?_) (List.perm_append_comm_assoc _ _ _)) rfl))
    obtain ⟨ady, cy, ey, ay⟩ := oy.arrW (C := cx B0 old) en37_len
    subst ey
    repeat (first | refine Z0 ?_ | (refine ZR ?_; first | refine x1 ?_ | refine x2 ?_ | refine x8 ?_ | refine Z1 ?_ | refine Z2 ?_ | refine x3 fun _ => ?_ | refine x4 fun _ => ?_ | refine x5 fun _ => ?_ | refine Z3 fun _ => ?_ | refine Z4 fun _ => ?_) | refine Za ?_ | refine Zb ?_ | refine Zl ?_ | refine Zc ?_ | refine Ze ?_ | refine Zi ?_ | refine Zj ?_ | refine Zf ?_ | refine Zg ?_ | refine Zm ?_ | refine Zn ?_ | refine Zo ?_ | refine Zp ?_ | refine Zq ?_ | refine Zr ?_ | refine Zk ?_)
    refine rt_step rfl rfl rfl (st_call rfl rfl rfl rfl (same18_ct (((ay [] _).arr en37_len).weak (List.Sublist.refl _)) (b5.weak (by exact drop_auto)) (by omega) ?_))
    repeat (first | refine Z0 ?_ | (refine ZR ?_; first | refine x1 ?_ | refine x2 ?_ | refine x8 ?_ | refine Z1 ?_ | refine Z2 ?_ | refine x3 fun _ => ?_ | refine x4 fun _ => ?_ | refine x5 fun _ => ?_ | refine Z3 fun _ => ?_ | refine Z4 fun _ => ?_) | refine Za ?_ | refine Zb ?_ | refine Zl ?_ | refine Zc ?_ | refine Ze ?_ | refine Zi ?_ | refine Zj ?_ | refine Zf ?_ | refine Zg ?_ | refine Zm ?_ | refine Zn ?_ | refine Zo ?_ | refine Zp ?_ | refine Zq ?_ | refine Zr ?_ | refine Zk ?_)
    exact re_1 rfl rfl (List.Sublist.refl _) (hQ _)
  have hi' : i < W.length := by omega
  have hi3 : i ≤ 1000 := by omega
  have hx := List.getElem?_eq_getElem hi'
  have htk : W.take (i + 1) = W.take i ++ [W[i]] := by rw [List.take_add_one, hx]; rfl
  have hxk := (hsr _ (List.getElem_mem hi')).time
  generalize W[i] = y at *
  obtain ⟨b1, p1, e1, hL0⟩ := haw.ldW 37 hx rfl (sz rfl)
  subst e1
  obtain ⟨b2, p2, e2, hL1⟩ := arr_ldF haw 3 5 hx rfl rfl rfl (sz rfl)
  cases e2
  obtain ⟨b2, p2, e2, hL2⟩ := arr_ldF haw 3 1 hx rfl rfl rfl (sz rfl)
  cases e2
  unfold en37 at hL0
  repeat (first | refine Z0 ?_ | (refine ZR ?_; first | refine x1 ?_ | refine x2 ?_ | refine x8 ?_ | refine Z1 ?_ | refine Z2 ?_ | refine x3 fun _ => ?_ | refine x4 fun _ => ?_ | refine x5 fun _ => ?_ | refine Z3 fun _ => ?_ | refine Z4 fun _ => ?_) | refine Za ?_ | refine Zb ?_ | refine Zl ?_ | refine Zc ?_ | refine Ze ?_ | refine Zi ?_ | refine Zj ?_ | refine Zf ?_ | refine Zg ?_ | refine Zm ?_ | refine Zn ?_ | refine Zo ?_ | refine Zp ?_ | refine Zq ?_ | refine Zr ?_ | refine Zk ?_)
  refine ct_condT te_d rfl (fun hold => ?_) (fun hold => ?_)
  · have hp : ageP now 20 y = true := decide_eq_true hold
    repeat (first | refine Z0 ?_ | (refine ZR ?_; first | refine x1 ?_ | refine x2 ?_ | refine x8 ?_ | refine Z1 ?_ | refine Z2 ?_ | refine x3 fun _ => ?_ | refine x4 fun _ => ?_ | refine x5 fun _ => ?_ | refine Z3 fun _ => ?_ | refine Z4 fun _ => ?_) | refine Za ?_ | refine Zb ?_ | refine Zl ?_ | refine Zc ?_ | refine Ze ?_ | refine Zi ?_ | refine Zj ?_ | refine Zf ?_ | refine Zg ?_ | refine Zm ?_ | refine Zn ?_ | refine Zo ?_ | refine Zp ?_ | refine Zq ?_ | refine Zr ?_ | refine Zk ?_)
    refine rt_step rfl rfl rfl (st_appP (M := [y]) (c := 1) (pre := [_]) o2 en37_len en37_one rfl rfl (ap rfl) (arrW_one en37_len hm0) (Nat.le_trans (Nat.mul_le_mul_right _ (fl_le _ hi3)) (by decide)) fun v2' g2' o2' => ?_)
    repeat (first | refine Z0 ?_ | (refine ZR ?_; first | refine x1 ?_ | refine x2 ?_ | refine x8 ?_ | refine Z1 ?_ | refine Z2 ?_ | refine x3 fun _ => ?_ | refine x4 fun _ => ?_ | refine x5 fun _ => ?_ | refine Z3 fun _ => ?_ | refine Z4 fun _ => ?_) | refine Za ?_ | refine Zb ?_ | refine Zl ?_ | refine Zc ?_ | refine Ze ?_ | refine Zi ?_ | refine Zj ?_ | refine Zf ?_ | refine Zg ?_ | refine Zm ?_ | refine Zn ?_ | refine Zo ?_ | refine Zp ?_ | refine Zq ?_ | refine Zr ?_ | refine Zk ?_)
    exact ⟨⟨i + 1, v2', v3, v4, v5, g2', g3, g4, g5⟩, ⟨by dsimp only; omega, by dsimp only; rw [htk, fl_yes hp]; exact o2', by dsimp only; rw [htk, fl_no (by rw [hp]; rfl)]; exact o3, by dsimp only; rw [htk, fl_no (by rw [hp]; rfl)]; exact o4, by dsimp only; rw [htk, fl_no (by rw [hp]; rfl)]; exact o5⟩, by dsimp only; omega, by repeat (first | exact SubL.nil | refine SubL.cons rfl ?_), by exact drop_auto⟩
  have hp : ageP now 20 y = false := decide_eq_false hold
  have hnp : (!ageP now 20 y) = true := by rw [hp]; rfl
  by_cases hsg : y.a1 = seg
  · have hq : segP seg y = true := by unfold segP; simp [hsg]
    repeat (first | refine Z0 ?_ | (refine ZR ?_; first | refine x1 ?_ | refine x2 ?_ | refine x8 ?_ | refine Z1 ?_ | refine Z2 ?_ | refine x3 fun _ => ?_ | refine x4 fun _ => ?_ | refine x5 fun _ => ?_ | refine Z3 fun _ => ?_ | refine Z4 fun _ => ?_) | refine Za ?_ | refine Zb ?_ | refine Zl ?_ | refine Zc ?_ | refine Ze ?_ | refine Zi ?_ | refine Zj ?_ | refine Zf ?_ | refine Zg ?_ | refine Zm ?_ | refine Zn ?_ | refine Zo ?_ | refine Zp ?_ | refine Zq ?_ | refine Zr ?_ | refine Zk ?_)
    rw [show (y.a1 == seg) = true by simp [hsg]]
    repeat (first | refine Z0 ?_ | (refine ZR ?_; first | refine x1 ?_ | refine x2 ?_ | refine x8 ?_ | refine Z1 ?_ | refine Z2 ?_ | refine x3 fun _ => ?_ | refine x4 fun _ => ?_ | refine x5 fun _ => ?_ | refine Z3 fun _ => ?_ | refine Z4 fun _ => ?_) | refine Za ?_ | refine Zb ?_ | refine Zl ?_ | refine Zc ?_ | refine Ze ?_ | refine Zi ?_ | refine Zj ?_ | refine Zf ?_ | refine Zg ?_ | refine Zm ?_ | refine Zn ?_ | refine Zo ?_ | refine Zp ?_ | refine Zq ?_ | refine Zr ?_ | refine Zk ?_)
    refine ct_draw (masks := [0, 0, 0, 6, 14, 30, 63, 0, 0, 0, 768, 1792, 3840, 8191, 16383, 32767]) (plan := [0, 1, 2, 3, 4, 7, 8, 9, 10, 11, 5, 6, 12, 13, 14, 15]) (E := [12]) (by kernel_rfl) (by kernel_rfl) (by kernel_rfl) (by kernel_rfl) ?_
    repeat (first | refine Y0 ?_ | (refine YP ?_; first | refine y1 ?_ | refine y2 ?_ | refine Y1 ?_ | refine Y2 ?_))
    refine pl_S' (late_has 12 rfl (made_slice rfl rfl rfl (zr rfl) rfl rfl rfl rfl rfl rfl)) rfl rfl rfl rfl rfl rfl (st_buildSlice rfl (zr rfl) rfl rfl rfl rfl rfl rfl fun s1 => ⟨by exact rec_auto, ?_⟩)
    refine pl_S' (late_has 12 rfl (made_slice rfl rfl rfl (zr rfl) rfl rfl rfl rfl rfl rfl)) rfl rfl rfl rfl rfl rfl (st_appP (M := [y]) (c := 1) (pre := _ :: g2) o3 en37_len en37_one rfl rfl (ap rfl) (arrW_one en37_len (List.Mem.head _)) (Nat.le_trans (Nat.mul_le_mul_right _ (fl_le _ hi3)) (by decide)) fun v3' g3' o3' => ⟨by exact rec_auto, ?_⟩)
    repeat (first | refine Y0 ?_ | (refine YP ?_; first | refine y1 ?_ | refine y2 ?_ | refine Y1 ?_ | refine Y2 ?_))
    refine pl_S' (late_has 12 rfl (made_slice rfl rfl rfl (zr rfl) rfl rfl rfl rfl rfl rfl)) rfl rfl rfl rfl rfl rfl (st_buildSlice rfl (zr rfl) rfl rfl rfl rfl rfl rfl fun s2 => ⟨by exact rec_auto, ?_⟩)
    refine PlanT.perm ?_ ag_p1
    refine pl_S' (late_no rfl) rfl rfl rfl rfl rfl rfl (st_appP (M := [y]) (c := 1) (pre := _ :: _ :: (g2 ++ g3')) o4 en37_len en37_one rfl rfl (ap rfl) (arrW_one en37_len (List.Mem.head _)) (Nat.le_trans (Nat.mul_le_mul_right _ (fl_le2 _ _ hi3)) (by decide)) fun v4' g4' o4' => ⟨by exact rec_auto, ?_⟩)
    repeat (first | refine Y0 ?_ | (refine YP ?_; first | refine y1 ?_ | refine y2 ?_ | refine Y1 ?_ | refine Y2 ?_))
    repeat (first | refine Z0 ?_ | (refine ZR ?_; first | refine x1 ?_ | refine x2 ?_ | refine x8 ?_ | refine Z1 ?_ | refine Z2 ?_ | refine x3 fun _ => ?_ | refine x4 fun _ => ?_ | refine x5 fun _ => ?_ | refine Z3 fun _ => ?_ | refine Z4 fun _ => ?_) | refine Za ?_ | refine Zb ?_ | refine Zl ?_ | refine Zc ?_ | refine Ze ?_ | refine Zi ?_ | refine Zj ?_ | refine Zf ?_ | refine Zg ?_ | refine Zm ?_ | refine Zn ?_ | refine Zo ?_ | refine Zp ?_ | refine Zq ?_ | refine Zr ?_ | refine Zk ?_)
    exact ⟨⟨i + 1, v2, v3', v4', v5, g2, g3', g4', g5⟩, ⟨by dsimp only; omega, by dsimp only; rw [htk, fl_no hp]; exact o2, by dsimp only; rw [htk, fl_yes hnp]; exact o3', by dsimp only; rw [htk, fl_yes hnp, fl_yes hq]; exact o4', by dsimp only; rw [htk, fl_yes hnp, fl_no (by rw [hq]; rfl)]; exact o5⟩, by dsimp only; omega, by repeat (first | exact SubL.nil | refine SubL.cons rfl ?_), ag_s1⟩
  · have hq : segP seg y = false := by unfold segP; simp [hsg]
    have hnq : (!segP seg y) = true := by rw [hq]; rfl
    repeat (first | refine Z0 ?_ | (refine ZR ?_; first | refine x1 ?_ | refine x2 ?_ | refine x8 ?_ | refine Z1 ?_ | refine Z2 ?_ | refine x3 fun _ => ?_ | refine x4 fun _ => ?_ | refine x5 fun _ => ?_ | refine Z3 fun _ => ?_ | refine Z4 fun _ => ?_) | refine Za ?_ | refine Zb ?_ | refine Zl ?_ | refine Zc ?_ | refine Ze ?_ | refine Zi ?_ | refine Zj ?_ | refine Zf ?_ | refine Zg ?_ | refine Zm ?_ | refine Zn ?_ | refine Zo ?_ | refine Zp ?_ | refine Zq ?_ | refine Zr ?_ | refine Zk ?_)
    rw [show (y.a1 == seg) = false by simpa using hsg]
    repeat (first | refine Z0 ?_ | (refine ZR ?_; first | refine x1 ?_ | refine x2 ?_ | refine x8 ?_ | refine Z1 ?_ | refine Z2 ?_ | refine x3 fun _ => ?_ | refine x4 fun _ => ?_ | refine x5 fun _ => ?_ | refine Z3 fun _ => ?_ | refine Z4 fun _ => ?_) | refine Za ?_ | refine Zb ?_ | refine Zl ?_ | refine Zc ?_ | refine Ze ?_ | refine Zi ?_ | refine Zj ?_ | refine Zf ?_ | refine Zg ?_ | refine Zm ?_ | refine Zn ?_ | refine Zo ?_ | refine Zp ?_ | refine Zq ?_ | refine Zr ?_ | refine Zk ?_)
    refine ct_draw (masks := [0, 0, 0, 6, 14, 30, 63, 0, 0, 0, 768, 1792, 3840, 8191, 16383, 32767]) (plan := [0, 1, 2, 3, 4, 7, 8, 9, 10, 11, 5, 6, 12, 13, 14, 15]) (E := [12]) (by kernel_rfl) (by kernel_rfl) (by kernel_rfl) (by kernel_rfl) ?_
    repeat (first | refine Y0 ?_ | (refine YP ?_; first | refine y1 ?_ | refine y2 ?_ | refine Y1 ?_ | refine Y2 ?_))
    refine pl_S' (late_has 12 rfl (made_slice rfl rfl rfl (zr rfl) rfl rfl rfl rfl rfl rfl)) rfl rfl rfl rfl rfl rfl (st_buildSlice rfl (zr rfl) rfl rfl rfl rfl rfl rfl fun s1 => ⟨by exact rec_auto, ?_⟩)
    refine pl_S' (late_has 12 rfl (made_slice rfl rfl rfl (zr rfl) rfl rfl rfl rfl rfl rfl)) rfl rfl rfl rfl rfl rfl (st_appP (M := [y]) (c := 1) (pre := _ :: g2) o3 en37_len en37_one rfl rfl (ap rfl) (arrW_one en37_len (List.Mem.head _)) (Nat.le_trans (Nat.mul_le_mul_right _ (fl_le _ hi3)) (by decide)) fun v3' g3' o3' => ⟨by exact rec_auto, ?_⟩)
    repeat (first | refine Y0 ?_ | (refine YP ?_; first | refine y1 ?_ | refine y2 ?_ | refine Y1 ?_ | refine Y2 ?_))
    refine pl_S' (late_has 12 rfl (made_slice rfl rfl rfl (zr rfl) rfl rfl rfl rfl rfl rfl)) rfl rfl rfl rfl rfl rfl (st_buildSlice rfl (zr rfl) rfl rfl rfl rfl rfl rfl fun s2 => ⟨by exact rec_auto, ?_⟩)
    refine PlanT.perm ?_ ag_p2
    refine pl_S' (late_no rfl) rfl rfl rfl rfl rfl rfl (st_appP (M := [y]) (c := 1) (pre := _ :: _ :: (g2 ++ (g3' ++ g4))) o5 en37_len en37_one rfl rfl (ap rfl) (arrW_one en37_len (List.Mem.head _)) (Nat.le_trans (Nat.mul_le_mul_right _ (fl_le2 _ _ hi3)) (by decide)) fun v5' g5' o5' => ⟨by exact rec_auto, ?_⟩)
    repeat (first | refine Y0 ?_ | (refine YP ?_; first | refine y1 ?_ | refine y2 ?_ | refine Y1 ?_ | refine Y2 ?_))
    repeat (first | refine Z0 ?_ | (refine ZR ?_; first | refine x1 ?_ | refine x2 ?_ | refine x8 ?_ | refine Z1 ?_ | refine Z2 ?_ | refine x3 fun _ => ?_ | refine x4 fun _ => ?_ | refine x5 fun _ => ?_ | refine Z3 fun _ => ?_ | refine Z4 fun _ => ?_) | refine Za ?_ | refine Zb ?_ | refine Zl ?_ | refine Zc ?_ | refine Ze ?_ | refine Zi ?_ | refine Zj ?_ | refine Zf ?_ | refine Zg ?_ | refine Zm ?_ | refine Zn ?_ | refine Zo ?_ | refine Zp ?_ | refine Zq ?_ | refine Zr ?_ | refine Zk ?_)
    exact ⟨⟨i + 1, v2, v3', v4, v5', g2, g3', g4, g5'⟩, ⟨by dsimp only; omega, by dsimp only; rw [htk, fl_no hp]; exact o2, by dsimp only; rw [htk, fl_yes hnp]; exact o3', by dsimp only; rw [htk, fl_yes hnp, fl_no hq]; exact o4, by dsimp only; rw [htk, fl_yes hnp, fl_yes hnq]; exact o5'⟩, by dsimp only; omega, by repeat (first | exact SubL.nil | refine SubL.cons rfl ?_), ag_s2⟩
end
end Go.Proofs.Ytojnbjandkbkmaa.Abs

/- The readings for the statement LearnAges. -/
