/- The laws' helpers: numbers that are picked, tables that are filled. -/
import Derived.Test.YtojnbjandkbkmaaQv
import Derived.Test.YtojnbjandkbkmaaQw
import Derived.Test.YtojnbjandkbkmaaTop
namespace Go.Proofs.Ytojnbjandkbkmaa.Abs
open Go
set_option linter.unusedVariables false
def fillN (A : List S37) : List S37 := A.foldl (fun L e => (learnN L e false).1) []
theorem rmN_len (k : Kk) (L : List S37) : (rmN k L).length ≤ L.length := List.length_filter_le _ _
theorem putN_len (L : List S37) (e : S37) : (putN L e).length ≤ L.length + 1 := by
  unfold putN
  rw [(insN_perm _ _).length_eq, List.length_cons, List.length_map]
  have := rmN_len (kOf e) L
  omega
theorem learnN_len (L : List S37) (e : S37) (fz : Bool) : (learnN L e fz).1.length ≤ L.length + 1 := by
  unfold learnN
  split
  · exact Nat.le_succ _
  · split
    · split
      · exact Nat.le_succ _
      · exact putN_len _ _
    · split
      · exact Nat.le_succ _
      · exact putN_len _ _
theorem fillN_snoc (A : List S37) (e : S37) : fillN (A ++ [e]) = (learnN (fillN A) e false).1 := by unfold fillN; rw [List.foldl_append]; rfl
theorem fill_len : ∀ (A L : List S37), (A.foldl (fun L e => (learnN L e false).1) L).length ≤ L.length + A.length
  | [], L => Nat.le_refl _
  | e :: A, L => by
    have h1 := fill_len A (learnN L e false).1
    have h2 := learnN_len L e false
    rw [List.foldl_cons, List.length_cons]
    omega
theorem fillN_len (A : List S37) : (fillN A).length ≤ A.length := by
  have := fill_len A []
  rw [List.length_nil, Nat.zero_add] at this
  exact this
theorem find_put {L : List S37} {e : S37} (h : SrtN (putN L e)) : findN (putN L e) (kOf e) = some e := (findN_iff h).2 ⟨putN_mem.2 (.inl rfl), rfl⟩
theorem learn_some {L : List S37} {e o : S37} {fz : Bool} (hc : chkN e = 0) (hf : findN L (kOf e) = some o) (hn : ¬ (o.a1 ≠ e.a1 ∧ fz = true)) : learnN L e fz = (putN L (mrg o e), decide (o.a1 ≠ e.a1), 0) := by
  unfold learnN; rw [if_neg (fun g => g hc), hf]; dsimp only; rw [if_neg hn]
theorem learn_froz {L : List S37} {e o : S37} (hc : chkN e = 0) (hf : findN L (kOf e) = some o) (h : o.a1 ≠ e.a1) : learnN L e true = (L, false, 9) := by
  unfold learnN; rw [if_neg (fun g => g hc), hf]; dsimp only; rw [if_pos ⟨h, rfl⟩]
theorem learn_new {L : List S37} {e : S37} {fz : Bool} (hc : chkN e = 0) (hf : findN L (kOf e) = none) (hl : L.length < 1024) : learnN L e fz = (putN L e, false, 0) := by
  unfold learnN; rw [if_neg (fun g => g hc), hf]; dsimp only; rw [if_neg (by omega)]
theorem learn_bad {L : List S37} {e : S37} {fz : Bool} (hc : chkN e ≠ 0) : learnN L e fz = (L, false, chkN e) := by unfold learnN; rw [if_pos hc]
theorem mrg_a1 (o e : S37) : (mrg o e).a1 = e.a1 := by unfold mrg; split <;> rfl
theorem mrg_ne {o e : S37} (h : o.a1 ≠ e.a1) : mrg o e = e := by unfold mrg; rw [if_neg h]
/-- An accepted entry is found, on its segment. -/
theorem learn_ok {L : List S37} {e : S37} {fz : Bool} (hl : L.length < 1024) (h : (learnN L e fz).2.2 = 0) (hs : SrtN (learnN L e fz).1) : chkN e = 0 ∧ ∃ x, findN (learnN L e fz).1 (kOf e) = some x ∧ x.a1 = e.a1 := by
  by_cases hc : chkN e = 0
  · refine ⟨hc, ?_⟩
    cases hf : findN L (kOf e) with
    | none =>
      rw [learn_new hc hf hl] at hs ⊢
      exact ⟨e, find_put hs, rfl⟩
    | some o =>
      by_cases hn : o.a1 ≠ e.a1 ∧ fz = true
      · obtain ⟨h1, rfl⟩ := hn
        rw [learn_froz hc hf h1] at h
        cases h
      · rw [learn_some hc hf hn] at hs ⊢
        refine ⟨mrg o e, ?_, mrg_a1 o e⟩
        have := find_put hs
        rwa [kOf_mrg] at this
  · rw [learn_bad hc] at h
    exact absurd h hc
theorem chk_seg {e : S37} (h : chkN e = 0) (hw : e.wf) {r : Int} (h0 : 0 ≤ r) (h1 : r < 64) : chkN { e with a1 := r } = 0 ∧ S37.wf { e with a1 := r } := by
  unfold S37.wf at hw ⊢
  refine ⟨?_, by dsimp only; omega⟩
  unfold chkN at h ⊢
  split at h
  · cases h
  · rename_i g1
    split at h
    · cases h
    · rename_i g2
      dsimp only
      rw [if_neg (by omega), if_neg g2]
theorem chk_rng {e : S37} (h : chkN e = 0) : 0 ≤ e.a1 ∧ e.a1 < 64 := by
  unfold chkN at h
  split at h
  · cases h
  · omega
section
variable {B0 : Nat} {old : Nat → Option (List Value)} {n : Nat} {H G : Hp} {Q : Value → Hp → Prop} {v : Value} {age : Int} {L A B : List S37}
set_option maxRecDepth 10000
set_option maxHeartbeats 8000000
theorem pick14_ct (x m : Int) (h0 : 0 < m) (hm : m ≤ 4611686018427387904) (hQ : ∀ r : Int, 0 ≤ r → r < m → Q (.int .i64 r) H) : CallT (cx B0 old) (acall (cx B0 old) ansP (n + 1)) 14 [.int .i64 x, .int .i64 m] H Q := by
  refine call_in2 14 rfl Try.func14 rfl rfl ?_
  have h1 := Int.tmod_lt_of_pos x h0
  have h2 := Int.lt_tmod_of_pos x h0
  repeat (first | refine Z0 ?_ | (refine ZR ?_; first | refine x1 ?_ | refine x2 ?_ | refine x8 ?_ | refine Z1 ?_ | refine Z2 ?_ | refine x3 fun _ => ?_ | refine x4 fun _ => ?_ | refine x5 fun _ => ?_ | refine Z3 fun _ => ?_ | refine Z4 fun _ => ?_) | refine Za ?_ | refine Zb ?_ | refine Zl ?_ | refine Zc ?_ | refine Ze ?_ | refine Zi ?_ | refine Zj ?_ | refine Zf ?_ | refine Zg ?_ | refine Zm ?_ | refine Zn ?_ | refine Zo ?_ | refine Zp ?_ | refine Zq ?_ | refine Zr ?_ | refine Zk ?_)
  apply rt_p rfl rfl rfl
  case hp => exact p_rem rfl rfl (by omega)
  generalize x.tmod m = r at *
  repeat (first | refine Z0 ?_ | (refine ZR ?_; first | refine x1 ?_ | refine x2 ?_ | refine x8 ?_ | refine Z1 ?_ | refine Z2 ?_ | refine x3 fun _ => ?_ | refine x4 fun _ => ?_ | refine x5 fun _ => ?_ | refine Z3 fun _ => ?_ | refine Z4 fun _ => ?_) | refine Za ?_ | refine Zb ?_ | refine Zl ?_ | refine Zc ?_ | refine Ze ?_ | refine Zi ?_ | refine Zj ?_ | refine Zf ?_ | refine Zg ?_ | refine Zm ?_ | refine Zn ?_ | refine Zo ?_ | refine Zp ?_ | refine Zq ?_ | refine Zr ?_ | refine Zk ?_)
  refine ct_condT te_d rfl (fun hc => ?_) (fun hc => ?_)
  · repeat (first | refine Z0 ?_ | (refine ZR ?_; first | refine x1 ?_ | refine x2 ?_ | refine x8 ?_ | refine Z1 ?_ | refine Z2 ?_ | refine x3 fun _ => ?_ | refine x4 fun _ => ?_ | refine x5 fun _ => ?_ | refine Z3 fun _ => ?_ | refine Z4 fun _ => ?_) | refine Za ?_ | refine Zb ?_ | refine Zl ?_ | refine Zc ?_ | refine Ze ?_ | refine Zi ?_ | refine Zj ?_ | refine Zf ?_ | refine Zg ?_ | refine Zm ?_ | refine Zn ?_ | refine Zo ?_ | refine Zp ?_ | refine Zq ?_ | refine Zr ?_ | refine Zk ?_)
    exact re_1 rfl rfl (List.Sublist.refl _) (hQ _ (by omega) (by omega))
  · repeat (first | refine Z0 ?_ | (refine ZR ?_; first | refine x1 ?_ | refine x2 ?_ | refine x8 ?_ | refine Z1 ?_ | refine Z2 ?_ | refine x3 fun _ => ?_ | refine x4 fun _ => ?_ | refine x5 fun _ => ?_ | refine Z3 fun _ => ?_ | refine Z4 fun _ => ?_) | refine Za ?_ | refine Zb ?_ | refine Zl ?_ | refine Zc ?_ | refine Ze ?_ | refine Zi ?_ | refine Zj ?_ | refine Zf ?_ | refine Zg ?_ | refine Zm ?_ | refine Zn ?_ | refine Zo ?_ | refine Zp ?_ | refine Zq ?_ | refine Zr ?_ | refine Zk ?_)
    exact re_1 rfl rfl (List.Sublist.refl _) (hQ _ (by omega) (by omega))
theorem filled27_ct {ad : Option Addr} {c : Nat} (h1 : Arr (cx B0 old) H ad 6 en37 A) (hw : ∀ x ∈ A, x.wf) (hl : A.length ≤ 1000) (hQ : ∀ v G, TbP v 20 (fillN A) G → Q v (G ++ H)) :
    CallT (cx B0 old) (acall (cx B0 old) ansP (n + 4)) 27 [.slice ad A.length c] H Q := by
  refine call_in1 29 rfl Try.func27 rfl rfl ?_
  repeat (first | refine Z0 ?_ | (refine ZR ?_; first | refine x1 ?_ | refine x2 ?_ | refine x8 ?_ | refine Z1 ?_ | refine Z2 ?_ | refine x3 fun _ => ?_ | refine x4 fun _ => ?_ | refine x5 fun _ => ?_ | refine Z3 fun _ => ?_ | refine Z4 fun _ => ?_) | refine Za ?_ | refine Zb ?_ | refine Zl ?_ | refine Zc ?_ | refine Ze ?_ | refine Zi ?_ | refine Zj ?_ | refine Zf ?_ | refine Zg ?_ | refine Zm ?_ | refine Zn ?_ | refine Zo ?_ | refine Zp ?_ | refine Zq ?_ | refine Zr ?_ | refine Zk ?_)
  refine rt_step rfl rfl rfl (st_call rfl rfl rfl rfl (newW 20 (fun h => absurd h (by decide)) (fun _ v G hT => ?_)))
  obtain ⟨p, rfl⟩ := hT.ptr
  repeat (first | refine Z0 ?_ | (refine ZR ?_; first | refine x1 ?_ | refine x2 ?_ | refine x8 ?_ | refine Z1 ?_ | refine Z2 ?_ | refine x3 fun _ => ?_ | refine x4 fun _ => ?_ | refine x5 fun _ => ?_ | refine Z3 fun _ => ?_ | refine Z4 fun _ => ?_) | refine Za ?_ | refine Zb ?_ | refine Zl ?_ | refine Zc ?_ | refine Ze ?_ | refine Zi ?_ | refine Zj ?_ | refine Zf ?_ | refine Zg ?_ | refine Zm ?_ | refine Zn ?_ | refine Zo ?_ | refine Zp ?_ | refine Zq ?_ | refine Zr ?_ | refine Zk ?_)
  refine loop_ind (ι := Nat × Hp) (0, G) (fun i => A.length - i.1) (fun i => i.1 ≤ A.length ∧ TbP (.pointer (some ⟨p, 0, none⟩)) 20 (fillN (A.take i.1)) i.2)
    (fun i => [(5, .int .i64 (i.1 : Int)), (3, .pointer (some ⟨p, 0, none⟩)), (0, .slice ad A.length c)]) (fun i => i.2 ++ H) ⟨Nat.zero_le _, hT⟩ (by repeat (first | exact SubL.nil | refine SubL.cons rfl ?_)) (List.Sublist.refl _) ?_
  clear hT
  rintro ⟨i, G⟩ ⟨hi, hT⟩
  dsimp only at hi hT ⊢
  repeat (first | refine Z0 ?_ | (refine ZR ?_; first | refine x1 ?_ | refine x2 ?_ | refine x8 ?_ | refine Z1 ?_ | refine Z2 ?_ | refine x3 fun _ => ?_ | refine x4 fun _ => ?_ | refine x5 fun _ => ?_ | refine Z3 fun _ => ?_ | refine Z4 fun _ => ?_) | refine Za ?_ | refine Zb ?_ | refine Zl ?_ | refine Zc ?_ | refine Ze ?_ | refine Zi ?_ | refine Zj ?_ | refine Zf ?_ | refine Zg ?_ | refine Zm ?_ | refine Zn ?_ | refine Zo ?_ | refine Zp ?_ | refine Zq ?_ | refine Zr ?_ | refine Zk ?_)
  refine ct_condT te_d rfl (fun hc => ?_) (fun hc => ?_)
  rotate_left
  · obtain rfl : i = A.length := by omega
    rw [List.take_length] at hT
    repeat (first | refine Z0 ?_ | (refine ZR ?_; first | refine x1 ?_ | refine x2 ?_ | refine x8 ?_ | refine Z1 ?_ | refine Z2 ?_ | refine x3 fun _ => ?_ | refine x4 fun _ => ?_ | refine x5 fun _ => ?_ | refine Z3 fun _ => ?_ | refine Z4 fun _ => ?_) | refine Za ?_ | refine Zb ?_ | refine Zl ?_ | refine Zc ?_ | refine Ze ?_ | refine Zi ?_ | refine Zj ?_ | refine Zf ?_ | refine Zg ?_ | refine Zm ?_ | refine Zn ?_ | refine Zo ?_ | refine Zp ?_ | refine Zq ?_ | refine Zr ?_ | refine Zk ?_)
    exact re_1 rfl rfl (List.Sublist.refl _) (hQ _ G hT)
  have hlt : i < A.length := by omega
  have hx := List.getElem?_eq_getElem hlt
  have htk : A.take (i + 1) = A.take i ++ [A[i]] := by rw [List.take_add_one, hx]; rfl
  have hxw := hw _ (List.getElem_mem hlt)
  generalize A[i] = x at *
  obtain ⟨b1, o1, e1, hL0⟩ := (h1.weak (List.sublist_append_right G H)).ldW 37 hx rfl (sz rfl)
  subst e1
  have hl2 := fillN_len (A.take i)
  rw [List.length_take] at hl2
  have hlW := fun {Q' : Value → Hp → Prop} => learnW (B0 := B0) (old := old) (n := n) (H := H) (Q := Q') hT x hxw false (by omega)
  unfold en37 at hL0 hlW
  repeat (first | refine Z0 ?_ | (refine ZR ?_; first | refine x1 ?_ | refine x2 ?_ | refine x8 ?_ | refine Z1 ?_ | refine Z2 ?_ | refine x3 fun _ => ?_ | refine x4 fun _ => ?_ | refine x5 fun _ => ?_ | refine Z3 fun _ => ?_ | refine Z4 fun _ => ?_) | refine Za ?_ | refine Zb ?_ | refine Zl ?_ | refine Zc ?_ | refine Ze ?_ | refine Zi ?_ | refine Zj ?_ | refine Zf ?_ | refine Zg ?_ | refine Zm ?_ | refine Zn ?_ | refine Zo ?_ | refine Zp ?_ | refine Zq ?_ | refine Zr ?_ | refine Zk ?_)
  refine rt_step rfl rfl rfl (st_call rfl rfl rfl rfl (hlW fun G' hT' => ?_))
  rw [← fillN_snoc, ← htk] at hT'
  repeat (first | refine Z0 ?_ | (refine ZR ?_; first | refine x1 ?_ | refine x2 ?_ | refine x8 ?_ | refine Z1 ?_ | refine Z2 ?_ | refine x3 fun _ => ?_ | refine x4 fun _ => ?_ | refine x5 fun _ => ?_ | refine Z3 fun _ => ?_ | refine Z4 fun _ => ?_) | refine Za ?_ | refine Zb ?_ | refine Zl ?_ | refine Zc ?_ | refine Ze ?_ | refine Zi ?_ | refine Zj ?_ | refine Zf ?_ | refine Zg ?_ | refine Zm ?_ | refine Zn ?_ | refine Zo ?_ | refine Zp ?_ | refine Zq ?_ | refine Zr ?_ | refine Zk ?_)
  exact ⟨(i + 1, G'), ⟨by dsimp only; omega, hT'⟩, by dsimp only; omega, by repeat (first | exact SubL.nil | refine SubL.cons rfl ?_), List.Sublist.refl _⟩
end
end Go.Proofs.Ytojnbjandkbkmaa.Abs

/- The contract of the statement LearnFrozen. -/
namespace Go.Proofs.Ytojnbjandkbkmaa.Abs
open Go
set_option linter.unusedVariables false
def enI (x : Int) : List Value := [.int .i64 x]
theorem enI_len (x : Int) : (enI x).length = 1 := rfl
section
variable {B0 : Nat} {old : Nat → Option (List Value)} {n : Nat} {H G : Hp} {Q : Value → Hp → Prop} {v : Value} {age : Int} {L A : List S37} {M : List Int}
set_option maxRecDepth 10000
set_option maxHeartbeats 8000000
theorem froz8_ct {ad ad2 : Option Addr} {c c2 : Nat} (h1 : Arr (cx B0 old) H ad 6 en37 A) (hw : ∀ x ∈ A, x.wf) (h2 : Arr (cx B0 old) H ad2 1 enI M) (e : S37) (he : e.wf) (hQ : ∀ H', Q (.bool true) H') :
    CallT (cx B0 old) (acall (cx B0 old) ansP (n + 1521)) 8 [.slice ad A.length c, .agg ⟨en37 e⟩, .slice ad2 M.length c2] H Q := by
  refine call_in3 112 rfl Try.func8 rfl rfl ?_
  have hen : en37 e = [.int .i64 e.a0, .int .i64 e.a1, .int .u64 e.a2, .int .u32 e.a3, .bool e.a4, .int .i64 e.a5] := rfl
  rw [hen]
  repeat (first | refine Z0 ?_ | (refine ZR ?_; first | refine x1 ?_ | refine x2 ?_ | refine x8 ?_ | refine Z1 ?_ | refine Z2 ?_ | refine x3 fun _ => ?_ | refine x4 fun _ => ?_ | refine x5 fun _ => ?_ | refine Z3 fun _ => ?_ | refine Z4 fun _ => ?_) | refine Za ?_ | refine Zb ?_ | refine Zl ?_ | refine Zc ?_ | refine Ze ?_ | refine Zi ?_ | refine Zj ?_ | refine Zf ?_ | refine Zg ?_ | refine Zm ?_ | refine Zn ?_ | refine Zo ?_ | refine Zp ?_ | refine Zq ?_ | refine Zr ?_ | refine Zk ?_)
  rename_i t4
  refine rt_step rfl rfl rfl (st_call rfl rfl rfl rfl (known4_ct ?_))
  repeat (first | refine Z0 ?_ | (refine ZR ?_; first | refine x1 ?_ | refine x2 ?_ | refine x8 ?_ | refine Z1 ?_ | refine Z2 ?_ | refine x3 fun _ => ?_ | refine x4 fun _ => ?_ | refine x5 fun _ => ?_ | refine Z3 fun _ => ?_ | refine Z4 fun _ => ?_) | refine Za ?_ | refine Zb ?_ | refine Zl ?_ | refine Zc ?_ | refine Ze ?_ | refine Zi ?_ | refine Zj ?_ | refine Zf ?_ | refine Zg ?_ | refine Zm ?_ | refine Zn ?_ | refine Zo ?_ | refine Zp ?_ | refine Zq ?_ | refine Zr ?_ | refine Zk ?_)
  refine isRun ?_
  refine z1 (fun hc => ?_) (fun hc => ?_)
  · repeat (first | refine Z0 ?_ | (refine ZR ?_; first | refine x1 ?_ | refine x2 ?_ | refine x8 ?_ | refine Z1 ?_ | refine Z2 ?_ | refine x3 fun _ => ?_ | refine x4 fun _ => ?_ | refine x5 fun _ => ?_ | refine Z3 fun _ => ?_ | refine Z4 fun _ => ?_) | refine Za ?_ | refine Zb ?_ | refine Zl ?_ | refine Zc ?_ | refine Ze ?_ | refine Zi ?_ | refine Zj ?_ | refine Zf ?_ | refine Zg ?_ | refine Zm ?_ | refine Zn ?_ | refine Zo ?_ | refine Zp ?_ | refine Zq ?_ | refine Zr ?_ | refine Zk ?_)
    exact re_1 rfl rfl (List.Sublist.refl _) (hQ _)
  repeat (first | refine Z0 ?_ | (refine ZR ?_; first | refine x1 ?_ | refine x2 ?_ | refine x8 ?_ | refine Z1 ?_ | refine Z2 ?_ | refine x3 fun _ => ?_ | refine x4 fun _ => ?_ | refine x5 fun _ => ?_ | refine Z3 fun _ => ?_ | refine Z4 fun _ => ?_) | refine Za ?_ | refine Zb ?_ | refine Zl ?_ | refine Zc ?_ | refine Ze ?_ | refine Zi ?_ | refine Zj ?_ | refine Zf ?_ | refine Zg ?_ | refine Zm ?_ | refine Zn ?_ | refine Zo ?_ | refine Zp ?_ | refine Zq ?_ | refine Zr ?_ | refine Zk ?_)
  refine ct_condT te_d rfl (fun hd => ?_) (fun hd => ?_)
  · repeat (first | refine Z0 ?_ | (refine ZR ?_; first | refine x1 ?_ | refine x2 ?_ | refine x8 ?_ | refine Z1 ?_ | refine Z2 ?_ | refine x3 fun _ => ?_ | refine x4 fun _ => ?_ | refine x5 fun _ => ?_ | refine Z3 fun _ => ?_ | refine Z4 fun _ => ?_) | refine Za ?_ | refine Zb ?_ | refine Zl ?_ | refine Zc ?_ | refine Ze ?_ | refine Zi ?_ | refine Zj ?_ | refine Zf ?_ | refine Zg ?_ | refine Zm ?_ | refine Zn ?_ | refine Zo ?_ | refine Zp ?_ | refine Zq ?_ | refine Zr ?_ | refine Zk ?_)
    exact re_1 rfl rfl (List.Sublist.refl _) (hQ _)
  repeat (first | refine Z0 ?_ | (refine ZR ?_; first | refine x1 ?_ | refine x2 ?_ | refine x8 ?_ | refine Z1 ?_ | refine Z2 ?_ | refine x3 fun _ => ?_ | refine x4 fun _ => ?_ | refine x5 fun _ => ?_ | refine Z3 fun _ => ?_ | refine Z4 fun _ => ?_) | refine Za ?_ | refine Zb ?_ | refine Zl ?_ | refine Zc ?_ | refine Ze ?_ | refine Zi ?_ | refine Zj ?_ | refine Zf ?_ | refine Zg ?_ | refine Zm ?_ | refine Zn ?_ | refine Zo ?_ | refine Zp ?_ | refine Zq ?_ | refine Zr ?_ | refine Zk ?_)
  refine rt_step rfl rfl rfl (st_call rfl rfl rfl rfl (filled27_ct (n := n + 1516) (h1.weak (by exact drop_auto)) hw (by omega) fun v G hT => ?_))
  obtain ⟨p, rfl⟩ := hT.ptr
  have hfl := fillN_len A
  have hlE := fun {H' : Hp} {Q' : Value → Hp → Prop} => learnW (B0 := B0) (old := old) (n := n + 1517) (H := H') (Q := Q') hT e he false (by omega)
  rw [hen] at hlE
  repeat (first | refine Z0 ?_ | (refine ZR ?_; first | refine x1 ?_ | refine x2 ?_ | refine x8 ?_ | refine Z1 ?_ | refine Z2 ?_ | refine x3 fun _ => ?_ | refine x4 fun _ => ?_ | refine x5 fun _ => ?_ | refine Z3 fun _ => ?_ | refine Z4 fun _ => ?_) | refine Za ?_ | refine Zb ?_ | refine Zl ?_ | refine Zc ?_ | refine Ze ?_ | refine Zi ?_ | refine Zj ?_ | refine Zf ?_ | refine Zg ?_ | refine Zm ?_ | refine Zn ?_ | refine Zo ?_ | refine Zp ?_ | refine Zq ?_ | refine Zr ?_ | refine Zk ?_)
  refine rt_step rfl rfl rfl (st_call rfl rfl rfl rfl (hlE fun G1 hT1 => ?_))
  have hok := learn_ok (L := fillN A) (e := e) (fz := false) (by omega)
  have hln := learnN_len (fillN A) e false
  generalize learnN (fillN A) e false = R at *
  obtain ⟨L1, mv, er⟩ := R
  dsimp only at hT1 hok hln ⊢
  repeat (first | refine Z0 ?_ | (refine ZR ?_; first | refine x1 ?_ | refine x2 ?_ | refine x8 ?_ | refine Z1 ?_ | refine Z2 ?_ | refine x3 fun _ => ?_ | refine x4 fun _ => ?_ | refine x5 fun _ => ?_ | refine Z3 fun _ => ?_ | refine Z4 fun _ => ?_) | refine Za ?_ | refine Zb ?_ | refine Zl ?_ | refine Zc ?_ | refine Ze ?_ | refine Zi ?_ | refine Zj ?_ | refine Zf ?_ | refine Zg ?_ | refine Zm ?_ | refine Zn ?_ | refine Zo ?_ | refine Zp ?_ | refine Zq ?_ | refine Zr ?_ | refine Zk ?_)
  refine ct_condT te_ne rfl (fun her => ?_) (fun her => ?_)
  · repeat (first | refine Z0 ?_ | (refine ZR ?_; first | refine x1 ?_ | refine x2 ?_ | refine x8 ?_ | refine Z1 ?_ | refine Z2 ?_ | refine x3 fun _ => ?_ | refine x4 fun _ => ?_ | refine x5 fun _ => ?_ | refine Z3 fun _ => ?_ | refine Z4 fun _ => ?_) | refine Za ?_ | refine Zb ?_ | refine Zl ?_ | refine Zc ?_ | refine Ze ?_ | refine Zi ?_ | refine Zj ?_ | refine Zf ?_ | refine Zg ?_ | refine Zm ?_ | refine Zn ?_ | refine Zo ?_ | refine Zp ?_ | refine Zq ?_ | refine Zr ?_ | refine Zk ?_)
    exact re_1 rfl rfl (List.Sublist.refl _) (hQ _)
  obtain ⟨hc0, hx⟩ := hok her hT1.srt.1
  have hrg := chk_rng hc0
  clear hlE hT hok her
  repeat (first | refine Z0 ?_ | (refine ZR ?_; first | refine x1 ?_ | refine x2 ?_ | refine x8 ?_ | refine Z1 ?_ | refine Z2 ?_ | refine x3 fun _ => ?_ | refine x4 fun _ => ?_ | refine x5 fun _ => ?_ | refine Z3 fun _ => ?_ | refine Z4 fun _ => ?_) | refine Za ?_ | refine Zb ?_ | refine Zl ?_ | refine Zc ?_ | refine Ze ?_ | refine Zi ?_ | refine Zj ?_ | refine Zf ?_ | refine Zg ?_ | refine Zm ?_ | refine Zn ?_ | refine Zo ?_ | refine Zp ?_ | refine Zq ?_ | refine Zr ?_ | refine Zk ?_)
  refine loop_ind (ι := Nat × List S37 × Hp) (0, L1, G1) (fun i => M.length - i.1) (fun i => i.1 ≤ M.length ∧ TbP (.pointer (some ⟨p, 0, none⟩)) 20 i.2.1 i.2.2 ∧ i.2.1.length ≤ 101 + i.1 ∧ ∃ x, findN i.2.1 (kOf e) = some x ∧ x.a1 = e.a1)
    (fun i => [(11, .int .i64 (i.1 : Int)), (8, .pointer (some ⟨p, 0, none⟩)), (4, .pointer (some ⟨t4, 0, none⟩)), (2, .slice ad2 M.length c2), (7, .bool true)])
    (fun i => i.2.2 ++ ((t4, .row [.int .i64 e.a0, .int .i64 e.a1, .int .u64 e.a2, .int .u32 e.a3, .bool e.a4, .int .i64 e.a5] 6 false) :: H)) ⟨Nat.zero_le _, hT1, by dsimp only; omega, hx⟩ (by repeat (first | exact SubL.nil | refine SubL.cons rfl ?_)) (List.Sublist.refl _) ?_
  clear hT1 hx hln
  rintro ⟨i, L, G⟩ ⟨hi, hT, hLl, x, hx, hxa⟩
  dsimp only at hi hT hLl hx ⊢
  repeat (first | refine Z0 ?_ | (refine ZR ?_; first | refine x1 ?_ | refine x2 ?_ | refine x8 ?_ | refine Z1 ?_ | refine Z2 ?_ | refine x3 fun _ => ?_ | refine x4 fun _ => ?_ | refine x5 fun _ => ?_ | refine Z3 fun _ => ?_ | refine Z4 fun _ => ?_) | refine Za ?_ | refine Zb ?_ | refine Zl ?_ | refine Zc ?_ | refine Ze ?_ | refine Zi ?_ | refine Zj ?_ | refine Zf ?_ | refine Zg ?_ | refine Zm ?_ | refine Zn ?_ | refine Zo ?_ | refine Zp ?_ | refine Zq ?_ | refine Zr ?_ | refine Zk ?_)
  refine ct_condT te_d rfl (fun hg => ?_) (fun hg => ?_)
  rotate_left
  · repeat (first | refine Z0 ?_ | (refine ZR ?_; first | refine x1 ?_ | refine x2 ?_ | refine x8 ?_ | refine Z1 ?_ | refine Z2 ?_ | refine x3 fun _ => ?_ | refine x4 fun _ => ?_ | refine x5 fun _ => ?_ | refine Z3 fun _ => ?_ | refine Z4 fun _ => ?_) | refine Za ?_ | refine Zb ?_ | refine Zl ?_ | refine Zc ?_ | refine Ze ?_ | refine Zi ?_ | refine Zj ?_ | refine Zf ?_ | refine Zg ?_ | refine Zm ?_ | refine Zn ?_ | refine Zo ?_ | refine Zp ?_ | refine Zq ?_ | refine Zr ?_ | refine Zk ?_)
    apply rt_p rfl rfl rfl
    case hp => exact p_rem rfl rfl (by decide)
    have hr : 0 ≤ (e.a1 + 1).tmod 64 ∧ (e.a1 + 1).tmod 64 < 64 ∧ (e.a1 + 1).tmod 64 ≠ e.a1 := by
      have : (e.a1 + 1).tmod 64 = (e.a1 + 1) % 64 := Int.tmod_eq_emod_of_nonneg (by omega)
      omega
    generalize (e.a1 + 1).tmod 64 = r at *
    obtain ⟨hcy, hwy⟩ := chk_seg hc0 he hr.1 hr.2.1
    have hr3 := hr.2.2
    have hly := learn_some (L := L) (e := { e with a1 := r }) (o := x) (fz := false) hcy hx (fun g => by cases g.2)
    have hne : x.a1 ≠ ({ e with a1 := r } : S37).a1 := fun g => hr3 (g.symm.trans hxa)
    rw [mrg_ne hne, decide_eq_true hne] at hly
    have hs := fun {H' : Hp} {Q' : Value → Hp → Prop} => learns20_ct (B0 := B0) (old := old) (n := n + 1516) (H := H') (Q := Q') hT { e with a1 := r } hwy false true 0 (by omega) (by rw [hly]) (by rw [hly])
    rw [hly] at hs
    unfold en37 at hs
    dsimp only at hs
    repeat (first | refine Z0 ?_ | (refine ZR ?_; first | refine x1 ?_ | refine x2 ?_ | refine x8 ?_ | refine Z1 ?_ | refine Z2 ?_ | refine x3 fun _ => ?_ | refine x4 fun _ => ?_ | refine x5 fun _ => ?_ | refine Z3 fun _ => ?_ | refine Z4 fun _ => ?_) | refine Za ?_ | refine Zb ?_ | refine Zl ?_ | refine Zc ?_ | refine Ze ?_ | refine Zi ?_ | refine Zj ?_ | refine Zf ?_ | refine Zg ?_ | refine Zm ?_ | refine Zn ?_ | refine Zo ?_ | refine Zp ?_ | refine Zq ?_ | refine Zr ?_ | refine Zk ?_)
    refine rt_step rfl rfl rfl (st_call rfl rfl rfl rfl (hs fun G2 hT2 => ?_))
    have hh := fun {H' : Hp} {Q' : Value → Hp → Prop} => has22_ct (B0 := B0) (old := old) (n := n + 1517) (H := H') (Q := Q') hT2 { e with a1 := r } (find_put hT2.srt.1)
    unfold en37 at hh
    dsimp only at hh
    repeat (first | refine Z0 ?_ | (refine ZR ?_; first | refine x1 ?_ | refine x2 ?_ | refine x8 ?_ | refine Z1 ?_ | refine Z2 ?_ | refine x3 fun _ => ?_ | refine x4 fun _ => ?_ | refine x5 fun _ => ?_ | refine Z3 fun _ => ?_ | refine Z4 fun _ => ?_) | refine Za ?_ | refine Zb ?_ | refine Zl ?_ | refine Zc ?_ | refine Ze ?_ | refine Zi ?_ | refine Zj ?_ | refine Zf ?_ | refine Zg ?_ | refine Zm ?_ | refine Zn ?_ | refine Zo ?_ | refine Zp ?_ | refine Zq ?_ | refine Zr ?_ | refine Zk ?_)
    refine rt_step rfl rfl rfl (st_call rfl rfl rfl rfl (hh ?_))
    repeat (first | refine Z0 ?_ | (refine ZR ?_; first | refine x1 ?_ | refine x2 ?_ | refine x8 ?_ | refine Z1 ?_ | refine Z2 ?_ | refine x3 fun _ => ?_ | refine x4 fun _ => ?_ | refine x5 fun _ => ?_ | refine Z3 fun _ => ?_ | refine Z4 fun _ => ?_) | refine Za ?_ | refine Zb ?_ | refine Zl ?_ | refine Zc ?_ | refine Ze ?_ | refine Zi ?_ | refine Zj ?_ | refine Zf ?_ | refine Zg ?_ | refine Zm ?_ | refine Zn ?_ | refine Zo ?_ | refine Zp ?_ | refine Zq ?_ | refine Zr ?_ | refine Zk ?_)
    exact re_1 rfl rfl (List.Sublist.refl _) (hQ _)
  have hlt : i < M.length := by omega
  have hm := List.getElem?_eq_getElem hlt
  generalize M[i] = m at *
  obtain ⟨b1, o1, e1, hL0⟩ := (h2.weak (List.sublist_append_right (G ++ [(t4, AObj.row [.int .i64 e.a0, .int .i64 e.a1, .int .u64 e.a2, .int .u32 e.a3, .bool e.a4, .int .i64 e.a5] 6 false)]) H)).ld1 3 hm rfl rfl (sz rfl)
  subst e1
  rw [List.append_assoc] at hL0
  repeat (first | refine Z0 ?_ | (refine ZR ?_; first | refine x1 ?_ | refine x2 ?_ | refine x8 ?_ | refine Z1 ?_ | refine Z2 ?_ | refine x3 fun _ => ?_ | refine x4 fun _ => ?_ | refine x5 fun _ => ?_ | refine Z3 fun _ => ?_ | refine Z4 fun _ => ?_) | refine Za ?_ | refine Zb ?_ | refine Zl ?_ | refine Zc ?_ | refine Ze ?_ | refine Zi ?_ | refine Zj ?_ | refine Zf ?_ | refine Zg ?_ | refine Zm ?_ | refine Zn ?_ | refine Zo ?_ | refine Zp ?_ | refine Zq ?_ | refine Zr ?_ | refine Zk ?_)
  rename_i t12
  refine rt_step rfl rfl rfl (st_call rfl rfl rfl rfl (pick14_ct m 64 (by decide) (by decide) fun r hr0 hr1 => ?_))
  clear hL0
  repeat (first | refine Z0 ?_ | (refine ZR ?_; first | refine x1 ?_ | refine x2 ?_ | refine x8 ?_ | refine Z1 ?_ | refine Z2 ?_ | refine x3 fun _ => ?_ | refine x4 fun _ => ?_ | refine x5 fun _ => ?_ | refine Z3 fun _ => ?_ | refine Z4 fun _ => ?_) | refine Za ?_ | refine Zb ?_ | refine Zl ?_ | refine Zc ?_ | refine Ze ?_ | refine Zi ?_ | refine Zj ?_ | refine Zf ?_ | refine Zg ?_ | refine Zm ?_ | refine Zn ?_ | refine Zo ?_ | refine Zp ?_ | refine Zq ?_ | refine Zr ?_ | refine Zk ?_)
  obtain ⟨hcy, hwy⟩ := chk_seg hc0 he hr0 hr1
  have hlY := fun {H' : Hp} {Q' : Value → Hp → Prop} => learnW (B0 := B0) (old := old) (n := n + 1517) (H := H') (Q := Q') hT { e with a1 := r } hwy true (by omega)
  unfold en37 at hlY
  dsimp only at hlY
  have hln := learnN_len L { e with a1 := r } true
  refine rt_step rfl rfl rfl (st_call rfl rfl rfl rfl (CallT.perm (hlY fun G2 hT2 => ?_) List.perm_middle))
  by_cases hr : x.a1 = r
  · have hly := learn_some (L := L) (e := { e with a1 := r }) (o := x) (fz := true) hcy hx (fun g => g.1 hr)
    rw [decide_eq_false (fun g => g hr)] at hly
    rw [hly] at hT2 hln ⊢
    dsimp only at hT2 hln ⊢
    have hx2 : findN (putN L (mrg x { e with a1 := r })) (kOf e) = some (mrg x { e with a1 := r }) := by
      have := find_put hT2.srt.1
      rwa [kOf_mrg] at this
    have hx3 : (mrg x { e with a1 := r }).a1 = e.a1 := (mrg_a1 _ _).trans (hr.symm.trans hxa)
    generalize putN L (mrg x { e with a1 := r }) = L2 at *
    generalize mrg x { e with a1 := r } = xb at *
    have hlk := fun {H' : Hp} {Q' : Value → Hp → Prop} h' => lookW (B0 := B0) (old := old) (n := n + 1518) (H := H') (Q := Q') hT2 e.a0 e.a2 h'
    have hx2' : findN L2 ⟨e.a0, e.a2⟩ = some xb := hx2
    rw [hx2'] at hlk
    simp only [Option.getD_some, Option.isSome_some] at hlk
    unfold en37 at hlk
    repeat (first | refine Z0 ?_ | (refine ZR ?_; first | refine x1 ?_ | refine x2 ?_ | refine x8 ?_ | refine Z1 ?_ | refine Z2 ?_ | refine x3 fun _ => ?_ | refine x4 fun _ => ?_ | refine x5 fun _ => ?_ | refine Z3 fun _ => ?_ | refine Z4 fun _ => ?_) | refine Za ?_ | refine Zb ?_ | refine Zl ?_ | refine Zc ?_ | refine Ze ?_ | refine Zi ?_ | refine Zj ?_ | refine Zf ?_ | refine Zg ?_ | refine Zm ?_ | refine Zn ?_ | refine Zo ?_ | refine Zp ?_ | refine Zq ?_ | refine Zr ?_ | refine Zk ?_)
    rw [show (r == e.a1) = true by simp [← hxa, hr]]
    repeat (first | refine Z0 ?_ | (refine ZR ?_; first | refine x1 ?_ | refine x2 ?_ | refine x8 ?_ | refine Z1 ?_ | refine Z2 ?_ | refine x3 fun _ => ?_ | refine x4 fun _ => ?_ | refine x5 fun _ => ?_ | refine Z3 fun _ => ?_ | refine Z4 fun _ => ?_) | refine Za ?_ | refine Zb ?_ | refine Zl ?_ | refine Zc ?_ | refine Ze ?_ | refine Zi ?_ | refine Zj ?_ | refine Zf ?_ | refine Zg ?_ | refine Zm ?_ | refine Zn ?_ | refine Zo ?_ | refine Zp ?_ | refine Zq ?_ | refine Zr ?_ | refine Zk ?_)
    refine rt_step rfl rfl rfl (st_call rfl rfl rfl rfl (hlk ?_))
    repeat (first | refine Z0 ?_ | (refine ZR ?_; first | refine x1 ?_ | refine x2 ?_ | refine x8 ?_ | refine Z1 ?_ | refine Z2 ?_ | refine x3 fun _ => ?_ | refine x4 fun _ => ?_ | refine x5 fun _ => ?_ | refine Z3 fun _ => ?_ | refine Z4 fun _ => ?_) | refine Za ?_ | refine Zb ?_ | refine Zl ?_ | refine Zc ?_ | refine Ze ?_ | refine Zi ?_ | refine Zj ?_ | refine Zf ?_ | refine Zg ?_ | refine Zm ?_ | refine Zn ?_ | refine Zo ?_ | refine Zp ?_ | refine Zq ?_ | refine Zr ?_ | refine Zk ?_)
    rw [show (xb.a1 != e.a1) = false by simp [hx3]]
    repeat (first | refine Z0 ?_ | (refine ZR ?_; first | refine x1 ?_ | refine x2 ?_ | refine x8 ?_ | refine Z1 ?_ | refine Z2 ?_ | refine x3 fun _ => ?_ | refine x4 fun _ => ?_ | refine x5 fun _ => ?_ | refine Z3 fun _ => ?_ | refine Z4 fun _ => ?_) | refine Za ?_ | refine Zb ?_ | refine Zl ?_ | refine Zc ?_ | refine Ze ?_ | refine Zi ?_ | refine Zj ?_ | refine Zf ?_ | refine Zg ?_ | refine Zm ?_ | refine Zn ?_ | refine Zo ?_ | refine Zp ?_ | refine Zq ?_ | refine Zr ?_ | refine Zk ?_)
    exact ⟨(i + 1, L2, G2), ⟨by dsimp only; omega, hT2, by dsimp only; omega, xb, hx2, hx3⟩, by dsimp only; omega, by repeat (first | exact SubL.nil | refine SubL.cons rfl ?_), by exact drop_auto⟩
  · have hly := learn_froz (L := L) (e := { e with a1 := r }) (o := x) hcy hx hr
    rw [hly] at hT2 hln ⊢
    dsimp only at hT2 hln ⊢
    have hlk := fun {H' : Hp} {Q' : Value → Hp → Prop} h' => lookW (B0 := B0) (old := old) (n := n + 1518) (H := H') (Q := Q') hT2 e.a0 e.a2 h'
    have hx2' : findN L ⟨e.a0, e.a2⟩ = some x := hx
    rw [hx2'] at hlk
    simp only [Option.getD_some, Option.isSome_some] at hlk
    unfold en37 at hlk
    repeat (first | refine Z0 ?_ | (refine ZR ?_; first | refine x1 ?_ | refine x2 ?_ | refine x8 ?_ | refine Z1 ?_ | refine Z2 ?_ | refine x3 fun _ => ?_ | refine x4 fun _ => ?_ | refine x5 fun _ => ?_ | refine Z3 fun _ => ?_ | refine Z4 fun _ => ?_) | refine Za ?_ | refine Zb ?_ | refine Zl ?_ | refine Zc ?_ | refine Ze ?_ | refine Zi ?_ | refine Zj ?_ | refine Zf ?_ | refine Zg ?_ | refine Zm ?_ | refine Zn ?_ | refine Zo ?_ | refine Zp ?_ | refine Zq ?_ | refine Zr ?_ | refine Zk ?_)
    rw [show (r == e.a1) = false by simp; omega]
    repeat (first | refine Z0 ?_ | (refine ZR ?_; first | refine x1 ?_ | refine x2 ?_ | refine x8 ?_ | refine Z1 ?_ | refine Z2 ?_ | refine x3 fun _ => ?_ | refine x4 fun _ => ?_ | refine x5 fun _ => ?_ | refine Z3 fun _ => ?_ | refine Z4 fun _ => ?_) | refine Za ?_ | refine Zb ?_ | refine Zl ?_ | refine Zc ?_ | refine Ze ?_ | refine Zi ?_ | refine Zj ?_ | refine Zf ?_ | refine Zg ?_ | refine Zm ?_ | refine Zn ?_ | refine Zo ?_ | refine Zp ?_ | refine Zq ?_ | refine Zr ?_ | refine Zk ?_)
    refine rt_step rfl rfl rfl (st_call rfl rfl rfl rfl (hlk ?_))
    repeat (first | refine Z0 ?_ | (refine ZR ?_; first | refine x1 ?_ | refine x2 ?_ | refine x8 ?_ | refine Z1 ?_ | refine Z2 ?_ | refine x3 fun _ => ?_ | refine x4 fun _ => ?_ | refine x5 fun _ => ?_ | refine Z3 fun _ => ?_ | refine Z4 fun _ => ?_) | refine Za ?_ | refine Zb ?_ | refine Zl ?_ | refine Zc ?_ | refine Ze ?_ | refine Zi ?_ | refine Zj ?_ | refine Zf ?_ | refine Zg ?_ | refine Zm ?_ | refine Zn ?_ | refine Zo ?_ | refine Zp ?_ | refine Zq ?_ | refine Zr ?_ | refine Zk ?_)
    rw [show (x.a1 != e.a1) = false by simp [hxa]]
    repeat (first | refine Z0 ?_ | (refine ZR ?_; first | refine x1 ?_ | refine x2 ?_ | refine x8 ?_ | refine Z1 ?_ | refine Z2 ?_ | refine x3 fun _ => ?_ | refine x4 fun _ => ?_ | refine x5 fun _ => ?_ | refine Z3 fun _ => ?_ | refine Z4 fun _ => ?_) | refine Za ?_ | refine Zb ?_ | refine Zl ?_ | refine Zc ?_ | refine Ze ?_ | refine Zi ?_ | refine Zj ?_ | refine Zf ?_ | refine Zg ?_ | refine Zm ?_ | refine Zn ?_ | refine Zo ?_ | refine Zp ?_ | refine Zq ?_ | refine Zr ?_ | refine Zk ?_)
    exact ⟨(i + 1, L, G2), ⟨by dsimp only; omega, hT2, by dsimp only; omega, x, hx, hxa⟩, by dsimp only; omega, by repeat (first | exact SubL.nil | refine SubL.cons rfl ?_), by exact drop_auto⟩
end
end Go.Proofs.Ytojnbjandkbkmaa.Abs

/- Readings of arguments for the statements of chapter 23. -/
namespace Go.Proofs.Ytojnbjandkbkmaa.Abs
open Go Go.RowKit
set_option linter.unusedVariables false
set_option maxRecDepth 100000
set_option maxHeartbeats 2000000
theorem lv3 : leaves Try.prog 10 3 = some [3] := by kernel_rfl
section
variable {H : Type} {enc : TypeId × Value → H} {w : World} {base : Nat} {spare : Nat → Bool} {held : Bool}
theorem i64_read {hs fuel : Nat} {cs : List Value} {x : DataW H × List MemPlace} (h : DataW.trod enc Try.prog w base spare held fuel 3 cs = some x) : cs.length = 1 ∧ ∃ p : Int, cs.map (normV hs) = enI p ∧ (-9223372036854775808 ≤ p ∧ p ≤ 9223372036854775807) := by
  have hh := leaves_ok 10 3 _ lv3 _ _ _ h
  refine ⟨hh.1, ?_⟩
  obtain ⟨v0, cs0, rfl, l0, h0⟩ := LeafOk.next hh
  obtain rfl := LeafOk.done h0
  obtain ⟨n0, rfl, w0⟩ := leaf_int (k := .i64) Try.underlying3 l0
  exact ⟨n0, rfl, wf_i64 w0⟩
end
end Go.Proofs.Ytojnbjandkbkmaa.Abs
