/- The laws' helpers: numbers that are picked, tables that are filled. -/
import Derived.Test.YtojnbjandkbkmaaQv
import Derived.Test.YtojnbjandkbkmaaQw
import Derived.Test.YtojnbjandkbkmaaTop
namespace Go.Proofs.Ytojnbjandkbkmaa.Abs
open Go
set_option linter.unusedVariables false
def fillN (A : List S37) : List S37 := A.foldl (fun L e => (learnN L e false).1) []
theorem rmN_len (k : Kk) (L : List S37) : (rmN k L).length ≤ L.length := List.length_filter_le _ _
theorem putN_len (L : List S37) (e : S37) : (putN L e).length ≤ L.length + 1 := by
  unfold putN
  rw [(insN_perm _ _).length_eq, List.length_cons, List.length_map]
  have := rmN_len (kOf e) L
  omega
theorem learnN_len (L : List S37) (e : S37) (fz : Bool) : (learnN L e fz).1.length ≤ L.length + 1 := by
  unfold learnN
  split
  · exact Nat.le_succ _
  · split
    · split
      · exact Nat.le_succ _
      · exact putN_len _ _
    · split
      · exact Nat.le_succ _
      · exact putN_len _ _
theorem fillN_snoc (A : List S37) (e : S37) : fillN (A ++ [e]) = (learnN (fillN A) e false).1 := by unfold fillN; rw [List.foldl_append]; rfl
theorem fill_len : ∀ (A L : List S37), (A.foldl (fun L e => (learnN L e false).1) L).length ≤ L.length + A.length
  | [], L => Nat.le_refl _
  | e :: A, L => by
    have h1 := fill_len A (learnN L e false).1
    have h2 := learnN_len L e false
    rw [List.foldl_cons, List.length_cons]
    omega
theorem fillN_len (A : List S37) : (fillN A).length ≤ A.length := by
  have := fill_len A []
  rw [List.length_nil, Nat.zero_add] at this
  exact this
theorem find_put {L : List S37} {e : S37} (h : SrtN (putN L e)) : findN (putN L e) (kOf e) = some e := (findN_iff h).2 ⟨putN_mem.2 (.inl rfl), rfl⟩
theorem learn_some {L : List S37} {e o : S37} {fz : Bool} (hc : chkN e = 0) (hf : findN L (kOf e) = some o) (hn : ¬ (o.a1 ≠ e.a1 ∧ fz = true)) : learnN L e fz = (putN L (mrg o e), decide (o.a1 ≠ e.a1), 0) := by
  unfold learnN; rw [if_neg (fun g => g hc), hf]; dsimp only; rw [if_neg hn]
theorem learn_froz {L : List S37} {e o : S37} (hc : chkN e = 0) (hf : findN L (kOf e) = some o) (h : o.a1 ≠ e.a1) : learnN L e true = (L, false, 9) := by
  unfold learnN; rw [if_neg (fun g => g hc), hf]; dsimp only; rw [if_pos ⟨h, rfl⟩]
theorem learn_new {L : List S37} {e : S37} {fz : Bool} (hc : chkN e = 0) (hf : findN L (kOf e) = none) (hl : L.length < 1024) : learnN L e fz = (putN L e, false, 0) := by
  unfold learnN; rw [if_neg (fun g => g hc), hf]; dsimp only; rw [if_neg (by omega)]
theorem learn_bad {L : List S37} {e : S37} {fz : Bool} (hc : chkN e ≠ 0) : learnN L e fz = (L, false, chkN e) := by unfold learnN; rw [if_pos hc]
theorem mrg_a1 (o e : S37) : (mrg o e).a1 = e.a1 := by unfold mrg; split <;> rfl
theorem mrg_ne {o e : S37} (h : o.a1 ≠ e.a1) : mrg o e = e := by unfold mrg; rw [if_neg h]
/-- An accepted entry is found, on its segment. -/
theorem learn_ok {L : List S37} {e : S37} {fz : Bool} (hl : L.length < 1024) (h : (learnN L e fz).2.2 = 0) (hs : SrtN (learnN L e fz).1) : chkN e = 0 ∧ ∃ x, findN (learnN L e fz).1 (kOf e) = some x ∧ x.a1 = e.a1 := by
  by_cases hc : chkN e = 0
  · refine ⟨hc, ?_⟩
    cases hf : findN L (kOf e) with
    | none =>
      rw [learn_new hc hf hl] at hs ⊢
      exact ⟨e, find_put hs, rfl⟩
    | some o =>
      by_cases hn : o.a1 ≠ e.a1 ∧ fz = true
      · obtain ⟨h1, rfl⟩ := hn
        rw [learn_froz hc hf h1] at h
        cases h
      · rw [learn_some hc hf hn] at hs ⊢
        refine ⟨mrg o e, ?_, mrg_a1 o e⟩
        have := find_put hs
        rwa [kOf_mrg] at this
  · rw [learn_bad hc] at h
    exact absurd h hc
theorem chk_seg {e : S37} (h : chkN e = 0) (hw : e.wf) {r : Int} (h0 : 0 ≤ r) (h1 : r < 64) : chkN { e with a1 := r } = 0 ∧ S37.wf { e with a1 := r } := by
  unfold S37.wf at hw ⊢
  refine ⟨?_, by dsimp only; omega⟩
  unfold chkN at h ⊢
  split at h
  · cases h
  · rename_i g1
    split at h
    · cases h
    · rename_i g2
      dsimp only
      rw [if_neg (by omega), if_neg g2]
theorem chk_rng {e : S37} (h : chkN e = 0) : 0 ≤ e.a1 ∧ e.a1 < 64 := by
  unfold chkN at h
  split at h
  · cases h
  · omega
section
variable {B0 : Nat} {old : Nat → Option (List Value)} {n : Nat} {H G : Hp} {Q : Value → Hp → Prop} {v : Value} {age : Int} {L A B : List S37}
set_option maxRecDepth 10000
set_option maxHeartbeats 8000000
theorem pick14_ct (x m : Int) (h0 : 0 < m) (hm : m ≤ 4611686018427387904) (hQ : ∀ r : Int, 0 ≤ r → r < m → Q (.int .i64 r) H) : CallT (cx B0 old) (acall (cx B0 old) ansP (n + 1)) 14 [.int .i64 x, .int .i64 m] H Q := by
  refine call_in2 14 rfl Try.func14 rfl rfl ?_
  have h1 := Int.tmod_lt_of_pos x h0
  have h2 := Int.lt_tmod_of_pos x h0
  repeat (first | refine Z0 ?_ | (refine ZR ?_; first | refine x1 ?_ | refine x2 ?_ | refine x8 ?_ | refine Z1 ?_ | refine Z2 ?_ | refine x3 fun _ => ?_ | refine x4 fun _ => ?_ | refine x5 fun _ => ?_ | refine Z3 fun _ => ?_ | refine Z4 fun _ => ?_) | refine Za ?_ | refine Zb ?_ | refine Zl ?_ | refine Zc ?_ | refine Ze ?_ | refine Zi ?_ | refine Zj ?_ | refine Zf ?_ | refine Zg ?_ | refine Zm ?_ | refine Zn ?_ | refine Zo ?_ | refine Zp ?_ | refine Zq ?_ | refine Zr ?_ | refine Zk ?_)
  apply rt_p rfl rfl rfl
  case hp => exact p_rem rfl rfl (by omega)
  generalize x.tmod m = r at *
  repeat (first | refine Z0 ?_ | (refine ZR ?_; first | refine x1 ?_ | refine x2 ?_ | refine x8 ?_ | refine Z1 ?_ | refine Z2 ?_ | refine x3 fun _ => ?_ | refine x4 fun _ => ?_ | refine x5 fun _ => ?_ | refine Z3 fun _ => ?_ | refine Z4 fun _ => ?_) | refine Za ?_ | refine Zb ?_ | refine Zl ?_ | refine Zc ?_ | refine Ze ?_ | refine Zi ?_ | refine Zj ?_ | refine Zf ?_ | refine Zg ?_ | refine Zm ?_ | refine Zn ?_ | refine Zo ?_ | refine Zp ?_ | refine Zq ?_ | refine Zr ?_ | refine Zk ?_)
  refine ct_condT te_d rfl (fun hc => ?_) (fun hc => ?_)
  · repeat (first | refine Z0 ?_ | (refine ZR ?_; first | refine x1 ?_ | refine x2 ?_ | refine x8 ?_ | refine Z1 ?_ | refine Z2 ?_ | refine x3 fun _ => ?_ | refine x4 fun _ => ?_ | refine x5 fun _ => ?_ | refine Z3 fun _ => ?_ | refine Z4 fun _ => ?_) | refine Za ?_ | refine Zb ?_ | refine Zl ?_ | refine Zc ?_ | refine Ze ?_ | refine Zi ?_ | refine Zj ?_ | refine Zf ?_ | refine Zg ?_ | refine Zm ?_ | refine Zn ?_ | refine Zo ?_ | refine Zp ?_ | refine Zq ?_ | refine Zr ?_ | refine Zk ?_)
    exact re_1 rfl rfl (List.Sublist.refl _) (hQ _ (by omega) (by omega))
  · repeat (first | refine Z0 ?_ | (refine ZR ?_; first | refine x1 ?_ | refine x2 ?_ | refine x8 ?_ | refine Z1 ?_ | refine Z2 ?_ | refine x3 fun _ => ?_ | refine x4 fun _ => ?_ | refine x5 fun _ => ?_ | refine Z3 fun _ => ?_ | refine Z4 fun _ => ?_) | refine Za ?_ | refine Zb ?_ | refine Zl ?_ | refine Zc ?_ | refine Ze ?_ | refine Zi ?_ | refine Zj ?_ | refine Zf ?_ | refine Zg ?_ | refine Zm ?_ | refine Zn ?_ | refine Zo ?_ | refine Zp ?_ | refine Zq ?_ | refine Zr ?_ | refine Zk ?_)
    exact re_1 rfl rfl (List.Sublist.refl _) (hQ _ (by omega) (by omega))
theorem filled27_ct {ad : Option Addr} {c : Nat} (h1 : Arr (cx B0 old) H ad 6 en37 A) (hw : ∀ x ∈ A, x.wf) (hl : A.length ≤ 1000) (hQ : ∀ v G, TbP v 20 (fillN A) G → Q v (G ++ H)) :
    CallT (cx B0 old) (acall (cx B0 old) ansP (n + 4)) 27 [.slice ad A.length c] H Q := by
  refine call_in1 29 rfl Try.func27 rfl rfl ?_
  repeat (first | refine Z0 ?_ | (refine ZR ?_; first | refine x1 ?_ | refine x2 ?_ | refine x8 ?_ | refine Z1 ?_ | refine Z2 ?_ | refine x3 fun _ => ?_ | refine x4 fun _ => ?_ | refine x5 fun _ => ?_ | refine Z3 fun _ => ?_ | refine Z4 fun _ => ?_) | refine Za ?_ | refine Zb ?_ | refine Zl ?_ | refine Zc ?_ | refine Ze ?_ | refine Zi ?_ | refine Zj ?_ | refine Zf ?_ | refine Zg ?_ | refine Zm ?_ | refine Zn ?_ | refine Zo ?_ | refine Zp ?_ | refine Zq ?_ | refine Zr ?_ | refine Zk ?_)
  refine rt_step rfl rfl rfl (st_call rfl rfl rfl rfl (newW 20 (fun h => absurd h (by decide)) (fun _ v G hT => ?_)))
  obtain ⟨p, rfl⟩ := hT.ptr
  repeat (first | refine Z0 ?_ | (refine ZR ?_; first | refine x1 ?_ | refine x2 ?_ | refine x8 ?_ | refine Z1 ?_ | refine Z2 ?_ | refine x3 fun _ => ?_ | refine x4 fun _ => ?_ | refine x5 fun _ => ?_ | refine Z3 fun _ => ?_ | refine Z4 fun _ => ?_) | refine Za ?_ | refine Zb ?_ | refine Zl ?_ | refine Zc ?_ | refine Ze ?_ | refine Zi ?_ | refine Zj ?_ | refine Zf ?_ | refine Zg ?_ | refine Zm ?_ | refine Zn ?_ | refine Zo ?_ | refine Zp ?_ | refine Zq ?_ | refine Zr ?_ | refine Zk ?_)
  refine loop_ind (ι := Nat × Hp) (0, G) (fun i => A.length - i.1) (fun i => i.1 ≤ A.length ∧ TbP (.pointer (some ⟨p, 0, none⟩)) 20 (fillN (A.take i.1)) i.2)
    (fun i => [(5, .int .i64 (i.1 : Int)), (3, .pointer (some ⟨p, 0, none⟩)), (0, .slice ad A.length c)]) (fun i => i.2 ++ H) ⟨Nat.zero_le _, hT⟩ (by repeat (first | exact SubL.nil | refine SubL.cons rfl ?_)) (List.Sublist.refl _) ?_
  clear hT
  rintro ⟨i, G⟩ ⟨hi, hT⟩
  dsimp only at hi hT ⊢
  repeat (first | refine Z0 ?_ | (refine ZR ?_; first | refine x1 ?_ | refine x2 ?_ | refine x8 ?_ | refine Z1 ?_ | refine Z2 ?_ | refine x3 fun _ => ?_ | refine x4 fun _ => ?_ | refine x5 fun _ => ?_ | refine Z3 fun _ => ?_ | refine Z4 fun _ => ?_) | refine Za ?_ | refine Zb ?_ | refine Zl ?_ | refine Zc ?_ | refine Ze ?_ | refine Zi ?_ | refine Zj ?_ | refine Zf ?_ | refine Zg ?_ | refine Zm ?_ | refine Zn ?_ | refine Zo ?_ | refine Zp ?_ | refine Zq ?_ | refine Zr ?_ | refine Zk ?_)
  refine ct_condT te_d rfl (fun hc => ?_) (fun hc => ?_)
  rotate_left
  · obtain rfl : i = A.length := by omega
    rw [List.take_length] at hT
    repeat (first | refine Z0 ?_ | (refine ZR ?_; first | refine x1 ?_ | refine x2 ?_ | refine x8 ?_ | refine Z1 ?_ | refine Z2 ?_ | refine x3 fun _ => ?_ | refine x4 fun _ => ?_ | refine x5 fun _ => ?_ | refine Z3 fun _ => ?_ | refine Z4 fun _ => ?_) | refine Za ?_ | refine Zb ?_ | refine Zl ?_ | refine Zc ?_ | refine Ze ?_ | refine Zi ?_ | refine Zj ?_ | refine Zf ?_ | refine Zg ?_ | refine Zm ?_ | refine Zn ?_ | refine Zo ?_ | refine Zp ?_ | refine Zq ?_ | refine Zr ?_ | refine Zk ?_)
    exact re_1 rfl rfl (List.Sublist.refl _) (hQ _ G hT)
  have hlt : i < A.length := by omega
  have hx := List.getElem?_eq_getElem hlt
  have htk : A.take (i + 1) = A.take i ++ [A[i]] := by rw [List.take_add_one, hx]; rfl
  have hxw := hw _ (List.getElem_mem hlt)
  generalize A[i] = x at *
  obtain ⟨b1, o1, e1, hL0⟩ := (h1.weak (List.sublist_append_right G H)).ldW 37 hx rfl (sz rfl)
  subst e1
  have hl2 := fillN_len (A.take i)
  rw [List.length_take] at hl2
  have hlW := fun {Q' : Value → Hp → Prop} => learnW (B0 := B0) (old := old) (n := n) (H := H) (Q := Q') hT x hxw false (by omega)
  unfold en37 at hL0 hlW
  repeat (first | refine Z0 ?_ | (refine ZR ?_; first | refine x1 ?_ | refine x2 ?_ | refine x8 ?_ | refine Z1 ?_ | refine Z2 ?_ | refine x3 fun _ => ?_ | refine x4 fun _ => ?_ | refine x5 fun _ => ?_ | refine Z3 fun _ => ?_ | refine Z4 fun _ => ?_) | refine Za ?_ | refine Zb ?_ | refine Zl ?_ | refine Zc ?_ | refine Ze ?_ | refine Zi ?_ | refine Zj ?_ | refine Zf ?_ | refine Zg ?_ | refine Zm ?_ | refine Zn ?_ | refine Zo ?_ | refine Zp ?_ | refine Zq ?_ | refine Zr ?_ | refine Zk ?_)
  refine rt_step rfl rfl rfl (st_call rfl rfl rfl rfl (hlW fun G' hT' => ?_))
  rw [← fillN_snoc, ← htk] at hT'
  repeat (first | refine Z0 ?_ | (refine ZR ?_; first | refine x1 ?_ | refine x2 ?_ | refine x8 ?_ | refine Z1 ?_ | refine Z2 ?_ | refine x3 fun _ => ?_ | refine x4 fun _ => ?_ | refine x5 fun _ => ?_ | refine Z3 fun _ => ?_ | refine Z4 fun _ => ?_) | refine Za ?_ | refine Zb ?_ | refine Zl ?_ | refine Zc ?_ | refine Ze ?_ | refine Zi ?_ | refine Zj ?_ | refine Zf ?_ | refine Zg ?_ | refine Zm ?_ | refine Zn ?_ | refine Zo ?_ | refine Zp ?_ | refine Zq ?_ | refine Zr ?_ | refine Zk ?_)
  exact ⟨(i + 1, G'), ⟨by dsimp only; omega, hT'⟩, by dsimp only; omega, by repeat (first | exact SubL.nil | refine SubL.cons rfl ?_), List.Sublist.refl _⟩
end
end Go.Proofs.Ytojnbjandkbkmaa.Abs

/- Plain laws for LearnFinds: what an accepted entry changes. -/
namespace Go.Proofs.Ytojnbjandkbkmaa.Abs
open Go
set_option linter.unusedVariables false
/-- What the law expects of another entry. -/
def stE (e y : S37) : S37 := if e.a4 = true ∧ y.a0 = e.a0 ∧ y.a3 = e.a3 then { y with a3 := 0, a4 := false } else y
theorem okE.ip {x : S37} (h : okE x) : x.a4 = true ↔ x.a3 ≠ 0 := by
  have h := h.2
  unfold chkN at h
  split at h
  · cases h
  · split at h
    · cases h
    · rename_i g
      exact Classical.not_not.1 fun g2 => g (.inr (.inr (.inr g2)))
theorem kOf_stE (e y : S37) : kOf (stE e y) = kOf y := by unfold stE; split <;> rfl
theorem stN_E {e y : S37} (he : okE e) (hy : okE y) : stN e y = stE e y := by
  unfold stN stE
  by_cases h : e.a4 = true ∧ y.a0 = e.a0 ∧ y.a3 = e.a3
  · have h3 : e.a3 ≠ 0 := he.ip.1 h.1
    rw [if_pos h, if_pos ⟨h.1, h.2.1, hy.ip.2 (by rw [h.2.2]; exact h3), h.2.2⟩]
  · rw [if_neg h, if_neg (fun g => h ⟨g.1, g.2.1, g.2.2.2⟩)]
/-- What the law says of an entry that is accepted: L before, L' behind, o the entry that was known. -/
structure FindsR (L L' : List S37) (e : S37) (o : Option S37) (mv : Bool) : Prop where
  now : ∃ x, findN L' (kOf e) = some x ∧ x.a1 = e.a1 ∧ (e.a4 = true → x.a4 = true ∧ x.a3 = e.a3) ∧ (o = none ∨ mv = true → x = e) ∧ (∀ y, o = some y → mv = false → x.a5 = if e.a5 > y.a5 then e.a5 else y.a5)
  mv : mv = match o with | some y => decide (y.a1 ≠ e.a1) | none => false
  oth : ∀ y ∈ L, kOf y ≠ kOf e → findN L' (kOf y) = some (stE e y)
  len : L'.length = L.length + match o with | some _ => 0 | none => 1
theorem rmN_one {L : List S37} (h : SrtN L) {k : Kk} {o : S37} (hf : findN L k = some o) : (rmN k L).length + 1 = L.length := by
  obtain ⟨h1, h2⟩ := (findN_iff h).1 hf
  have hp : L.Perm (o :: rmN k L) := by
    have hnd : (o :: rmN k L).Nodup := List.nodup_cons.2 ⟨fun g => (of_decide_eq_true (List.mem_filter.1 g).2 : kOf o ≠ k) h2, h.nd.sublist List.filter_sublist⟩
    refine (List.perm_ext_iff_of_nodup h.nd hnd).2 fun x => ?_
    rw [List.mem_cons]
    constructor
    · intro hx
      by_cases e : kOf x = k
      · exact .inl (h.key hx h1 (e.trans h2.symm))
      · exact .inr (List.mem_filter.2 ⟨hx, decide_eq_true e⟩)
    · rintro (rfl | hx)
      · exact h1
      · exact (List.mem_filter.1 hx).1
  have := hp.length_eq
  rw [List.length_cons] at this
  omega
theorem putN_len' (L : List S37) (e : S37) : (putN L e).length = (rmN (kOf e) L).length + 1 := by
  unfold putN
  rw [(insN_perm _ _).length_eq, List.length_cons, List.length_map]
theorem findsR {L : List S37} {e : S37} (hs : SrtN L) (hv : ∀ x ∈ L, okE x) (huq : ∀ x y, x ∈ L → y ∈ L → x.a4 = true → y.a4 = true → x.a0 = y.a0 → x.a3 = y.a3 → x = y) (hw : e.wf) (hl : L.length < 1024) (h0 : (learnN L e false).2.2 = 0) :
    FindsR L (learnN L e false).1 e (findN L (kOf e)) (learnN L e false).2.1 := by
  by_cases hc : chkN e = 0
  rotate_left
  · rw [learn_bad hc] at h0; exact absurd h0 hc
  have hE : okE e := ⟨hw, hc⟩
  have hoth : ∀ {x : S37}, okE x → kOf x = kOf e → (∀ y ∈ L, kOf y ≠ kOf e → stN x y = stE e y) → ∀ y ∈ L, kOf y ≠ kOf e → findN (putN L x) (kOf y) = some (stE e y) := fun {x} hx hk hst y hy hne =>
    (findN_iff (putN_srt hs hv hx)).2 ⟨putN_mem.2 (.inr ⟨y, hy, by rw [hk]; exact hne, hst y hy hne⟩), kOf_stE e y⟩
  cases hf : findN L (kOf e) with
  | none =>
    rw [learn_new hc hf hl]
    refine ⟨⟨e, find_put (putN_srt hs hv hE), rfl, fun _ => ⟨by assumption, rfl⟩, fun _ => rfl, fun y g => by cases g⟩, rfl, hoth hE rfl (fun y hy _ => stN_E hE (hv y hy)), ?_⟩
    rw [putN_len']
    have : rmN (kOf e) L = L := List.filter_eq_self.2 fun x hx => decide_eq_true fun g => by
      rw [(findN_iff hs).2 ⟨hx, g⟩] at hf; cases hf
    rw [this]
  | some o =>
    obtain ⟨ho1, ho2⟩ := (findN_iff hs).1 hf
    have hO := hv o ho1
    rw [learn_some hc hf (fun g => by cases g.2)]
    have hM := okE.mrg hO hE
    have hlen := rmN_one hs hf
    refine ⟨⟨mrg o e, ?_, mrg_a1 o e, fun h4 => ?_, fun h => ?_, fun y g hm => ?_⟩, rfl, hoth hM kOf_mrg (fun y hy hne => ?_), by rw [putN_len', kOf_mrg]; omega⟩
    · have := find_put (putN_srt hs hv hM)
      rwa [kOf_mrg] at this
    · unfold mrg
      split
      · dsimp only; rw [h4]; exact ⟨rfl, rfl⟩
      · exact ⟨h4, rfl⟩
    · rcases h with h | h
      · cases h
      · exact mrg_ne (of_decide_eq_true h)
    · cases g
      have : o.a1 = e.a1 := Classical.not_not.1 (of_decide_eq_false hm)
      unfold mrg
      rw [if_pos this]
    · by_cases hm : o.a1 = e.a1
      · by_cases h4 : e.a4 = true
        · have h1 : (mrg o e).a4 = true := by unfold mrg; rw [if_pos hm, h4]; rfl
          have h2 : (mrg o e).a3 = e.a3 := by unfold mrg; rw [if_pos hm]; dsimp only; rw [if_pos h4]
          have h3 : (mrg o e).a0 = e.a0 := by unfold mrg; rw [if_pos hm]
          rw [stN_E hM (hv y hy)]
          unfold stE
          rw [h1, h2, h3, h4]
        · have h4' : e.a4 = false := by cases h : e.a4 with | true => exact absurd h h4 | false => rfl
          have h1 : (mrg o e).a4 = o.a4 := by unfold mrg; rw [if_pos hm]; dsimp only; rw [h4']; rfl
          have h2 : (mrg o e).a3 = o.a3 := by unfold mrg; rw [if_pos hm]; dsimp only; rw [if_neg h4]
          have h3 : (mrg o e).a0 = e.a0 := by unfold mrg; rw [if_pos hm]
          have h5 : stE e y = y := by unfold stE; rw [if_neg (fun g => h4 g.1)]
          rw [h5]
          unfold stN
          rw [if_neg]
          rintro ⟨g1, g2, g3, g4⟩
          rw [h1] at g1
          rw [h3] at g2
          rw [h2] at g4
          have ho0 : o.a0 = e.a0 := congrArg Kk.bd ho2
          exact hne (by rw [huq y o hy ho1 g3 g1 (g2.trans ho0.symm) g4, ho2])
      · rw [mrg_ne hm]
        exact stN_E hE (hv y hy)
end Go.Proofs.Ytojnbjandkbkmaa.Abs

/- The contract of the statement LearnFinds. -/
namespace Go.Proofs.Ytojnbjandkbkmaa.Abs
open Go
set_option linter.unusedVariables false
theorem learn_err {L : List S37} {e : S37} {fz : Bool} (h : (learnN L e fz).2.2 ≠ 0) : (learnN L e fz).1 = L ∧ (learnN L e fz).2.1 = false := by
  unfold learnN at h ⊢
  split
  · exact ⟨rfl, rfl⟩
  · rename_i g
    rw [if_neg g] at h
    split
    · rename_i o ho
      rw [ho] at h
      dsimp only at h
      split
      · exact ⟨rfl, rfl⟩
      · rename_i g2
        rw [if_neg g2] at h
        exact absurd rfl h
    · rename_i ho
      rw [ho] at h
      dsimp only at h
      split
      · exact ⟨rfl, rfl⟩
      · rename_i g2
        rw [if_neg g2] at h
        exact absurd rfl h
section
variable {B0 : Nat} {old : Nat → Option (List Value)} {n : Nat} {H G : Hp} {Q : Value → Hp → Prop} {L A : List S37}
set_option maxRecDepth 10000
set_option maxHeartbeats 8000000
theorem finds5_ct {ad : Option Addr} {c : Nat} (h1 : Arr (cx B0 old) H ad 6 en37 A) (hw : ∀ x ∈ A, x.wf) (e : S37) (he : e.wf) (hQ : ∀ H', Q (.bool true) H') :
    CallT (cx B0 old) (acall (cx B0 old) ansP (n + 1521)) 5 [.slice ad A.length c, .agg ⟨en37 e⟩] H Q := by
  refine call_in2 187 rfl Try.func5 rfl rfl ?_
  have hen : en37 e = [.int .i64 e.a0, .int .i64 e.a1, .int .u64 e.a2, .int .u32 e.a3, .bool e.a4, .int .i64 e.a5] := rfl
  rw [hen]
  repeat (first | refine Z0 ?_ | (refine ZR ?_; first | refine x1 ?_ | refine x2 ?_ | refine x8 ?_ | refine Z1 ?_ | refine Z2 ?_ | refine x3 fun _ => ?_ | refine x4 fun _ => ?_ | refine x5 fun _ => ?_ | refine Z3 fun _ => ?_ | refine Z4 fun _ => ?_) | refine Za ?_ | refine Zb ?_ | refine Zl ?_ | refine Zc ?_ | refine Ze ?_ | refine Zi ?_ | refine Zj ?_ | refine Zf ?_ | refine Zg ?_ | refine Zm ?_ | refine Zn ?_ | refine Zo ?_ | refine Zp ?_ | refine Zq ?_ | refine Zr ?_ | refine Zk ?_)
  rename_i t3
  refine rt_step rfl rfl rfl (st_call rfl rfl rfl rfl (known4_ct ?_))
  repeat (first | refine Z0 ?_ | (refine ZR ?_; first | refine x1 ?_ | refine x2 ?_ | refine x8 ?_ | refine Z1 ?_ | refine Z2 ?_ | refine x3 fun _ => ?_ | refine x4 fun _ => ?_ | refine x5 fun _ => ?_ | refine Z3 fun _ => ?_ | refine Z4 fun _ => ?_) | refine Za ?_ | refine Zb ?_ | refine Zl ?_ | refine Zc ?_ | refine Ze ?_ | refine Zi ?_ | refine Zj ?_ | refine Zf ?_ | refine Zg ?_ | refine Zm ?_ | refine Zn ?_ | refine Zo ?_ | refine Zp ?_ | refine Zq ?_ | refine Zr ?_ | refine Zk ?_)
  refine ct_condT te_d rfl (fun hc => ?_) (fun hc => ?_)
  · repeat (first | refine Z0 ?_ | (refine ZR ?_; first | refine x1 ?_ | refine x2 ?_ | refine x8 ?_ | refine Z1 ?_ | refine Z2 ?_ | refine x3 fun _ => ?_ | refine x4 fun _ => ?_ | refine x5 fun _ => ?_ | refine Z3 fun _ => ?_ | refine Z4 fun _ => ?_) | refine Za ?_ | refine Zb ?_ | refine Zl ?_ | refine Zc ?_ | refine Ze ?_ | refine Zi ?_ | refine Zj ?_ | refine Zf ?_ | refine Zg ?_ | refine Zm ?_ | refine Zn ?_ | refine Zo ?_ | refine Zp ?_ | refine Zq ?_ | refine Zr ?_ | refine Zk ?_)
    exact re_1 rfl rfl (List.Sublist.refl _) (hQ _)
  repeat (first | refine Z0 ?_ | (refine ZR ?_; first | refine x1 ?_ | refine x2 ?_ | refine x8 ?_ | refine Z1 ?_ | refine Z2 ?_ | refine x3 fun _ => ?_ | refine x4 fun _ => ?_ | refine x5 fun _ => ?_ | refine Z3 fun _ => ?_ | refine Z4 fun _ => ?_) | refine Za ?_ | refine Zb ?_ | refine Zl ?_ | refine Zc ?_ | refine Ze ?_ | refine Zi ?_ | refine Zj ?_ | refine Zf ?_ | refine Zg ?_ | refine Zm ?_ | refine Zn ?_ | refine Zo ?_ | refine Zp ?_ | refine Zq ?_ | refine Zr ?_ | refine Zk ?_)
  refine rt_step rfl rfl rfl (st_call rfl rfl rfl rfl (filled27_ct (n := n + 1516) (h1.weak (by exact drop_auto)) hw (by omega) fun v G hT => ?_))
  obtain ⟨p, rfl⟩ := hT.ptr
  have hfl := fillN_len A
  generalize fillN A = L at *
  repeat (first | refine Z0 ?_ | (refine ZR ?_; first | refine x1 ?_ | refine x2 ?_ | refine x8 ?_ | refine Z1 ?_ | refine Z2 ?_ | refine x3 fun _ => ?_ | refine x4 fun _ => ?_ | refine x5 fun _ => ?_ | refine Z3 fun _ => ?_ | refine Z4 fun _ => ?_) | refine Za ?_ | refine Zb ?_ | refine Zl ?_ | refine Zc ?_ | refine Ze ?_ | refine Zi ?_ | refine Zj ?_ | refine Zf ?_ | refine Zg ?_ | refine Zm ?_ | refine Zn ?_ | refine Zo ?_ | refine Zp ?_ | refine Zq ?_ | refine Zr ?_ | refine Zk ?_)
  refine rt_step rfl rfl rfl (st_call rfl rfl rfl rfl (CallT.fuel (allW (n := n + 4) hT (by omega) fun w Gw ow => ?_) rfl))
  obtain ⟨adw, cw, ew, gw⟩ := ow.arrW (C := cx B0 old) en37_len
  subst ew
  have hlk := fun {H' : Hp} {Q' : Value → Hp → Prop} h' => lookW (B0 := B0) (old := old) (n := n + 1518) (H := H') (Q := Q') hT e.a0 e.a2 h'
  have hkE : findN L ⟨e.a0, e.a2⟩ = findN L (kOf e) := rfl
  rw [hkE] at hlk
  have hlE := fun {H' : Hp} {Q' : Value → Hp → Prop} => learnW (B0 := B0) (old := old) (n := n + 1517) (H := H') (Q := Q') hT e he false (by omega)
  rw [hen] at hlE
  have hFR := findsR hT.srt.1 hT.srt.2 (fun x y => hT.key) he (by omega)
  have hER := learn_err (L := L) (e := e) (fz := false)
  generalize hov : (findN L (kOf e)).getD zN = ov at *
  generalize hkn : (findN L (kOf e)).isSome = kn at *
  unfold en37 at hlk
  repeat (first | refine Z0 ?_ | (refine ZR ?_; first | refine x1 ?_ | refine x2 ?_ | refine x8 ?_ | refine Z1 ?_ | refine Z2 ?_ | refine x3 fun _ => ?_ | refine x4 fun _ => ?_ | refine x5 fun _ => ?_ | refine Z3 fun _ => ?_ | refine Z4 fun _ => ?_) | refine Za ?_ | refine Zb ?_ | refine Zl ?_ | refine Zc ?_ | refine Ze ?_ | refine Zi ?_ | refine Zj ?_ | refine Zf ?_ | refine Zg ?_ | refine Zm ?_ | refine Zn ?_ | refine Zo ?_ | refine Zp ?_ | refine Zq ?_ | refine Zr ?_ | refine Zk ?_)
  refine rt_step rfl rfl rfl (st_call rfl rfl rfl rfl (CallT.perm (hlk ?_) (List.perm_append_comm_assoc _ _ _)))
  repeat (first | refine Z0 ?_ | (refine ZR ?_; first | refine x1 ?_ | refine x2 ?_ | refine x8 ?_ | refine Z1 ?_ | refine Z2 ?_ | refine x3 fun _ => ?_ | refine x4 fun _ => ?_ | refine x5 fun _ => ?_ | refine Z3 fun _ => ?_ | refine Z4 fun _ => ?_) | refine Za ?_ | refine Zb ?_ | refine Zl ?_ | refine Zc ?_ | refine Ze ?_ | refine Zi ?_ | refine Zj ?_ | refine Zf ?_ | refine Zg ?_ | refine Zm ?_ | refine Zn ?_ | refine Zo ?_ | refine Zp ?_ | refine Zq ?_ | refine Zr ?_ | refine Zk ?_)
  rename_i t8
  refine rt_step rfl rfl rfl (st_call rfl rfl rfl rfl (CallT.perm (hlE fun G1 hT1 => ?_) List.perm_middle))
  generalize learnN L e false = R at *
  obtain ⟨L1, mv, er⟩ := R
  dsimp only at hT1 hFR hER ⊢
  clear hlE hlk
  repeat (first | refine Z0 ?_ | (refine ZR ?_; first | refine x1 ?_ | refine x2 ?_ | refine x8 ?_ | refine Z1 ?_ | refine Z2 ?_ | refine x3 fun _ => ?_ | refine x4 fun _ => ?_ | refine x5 fun _ => ?_ | refine Z3 fun _ => ?_ | refine Z4 fun _ => ?_) | refine Za ?_ | refine Zb ?_ | refine Zl ?_ | refine Zc ?_ | refine Ze ?_ | refine Zi ?_ | refine Zj ?_ | refine Zf ?_ | refine Zg ?_ | refine Zm ?_ | refine Zn ?_ | refine Zo ?_ | refine Zp ?_ | refine Zq ?_ | refine Zr ?_ | refine Zk ?_)
  refine ct_condT te_ne rfl (fun her => ?_) (fun her => ?_)
  · obtain ⟨rfl, rfl⟩ := hER her
    repeat (first | refine Z0 ?_ | (refine ZR ?_; first | refine x1 ?_ | refine x2 ?_ | refine x8 ?_ | refine Z1 ?_ | refine Z2 ?_ | refine x3 fun _ => ?_ | refine x4 fun _ => ?_ | refine x5 fun _ => ?_ | refine Z3 fun _ => ?_ | refine Z4 fun _ => ?_) | refine Za ?_ | refine Zb ?_ | refine Zl ?_ | refine Zc ?_ | refine Ze ?_ | refine Zi ?_ | refine Zj ?_ | refine Zf ?_ | refine Zg ?_ | refine Zm ?_ | refine Zn ?_ | refine Zo ?_ | refine Zp ?_ | refine Zq ?_ | refine Zr ?_ | refine Zk ?_)
    refine rt_step rfl rfl rfl (st_call rfl rfl rfl rfl (CallT.fuel (allW (n := n + 4) hT1 (by omega) fun w Ga oa => ?_) rfl))
    obtain ⟨ada, ca, ea, ga⟩ := oa.arrW (C := cx B0 old) en37_len
    subst ea
    repeat (first | refine Z0 ?_ | (refine ZR ?_; first | refine x1 ?_ | refine x2 ?_ | refine x8 ?_ | refine Z1 ?_ | refine Z2 ?_ | refine x3 fun _ => ?_ | refine x4 fun _ => ?_ | refine x5 fun _ => ?_ | refine Z3 fun _ => ?_ | refine Z4 fun _ => ?_) | refine Za ?_ | refine Zb ?_ | refine Zl ?_ | refine Zc ?_ | refine Ze ?_ | refine Zi ?_ | refine Zj ?_ | refine Zf ?_ | refine Zg ?_ | refine Zm ?_ | refine Zn ?_ | refine Zo ?_ | refine Zp ?_ | refine Zq ?_ | refine Zr ?_ | refine Zk ?_)
    refine rt_step rfl rfl rfl (st_call rfl rfl rfl rfl (same18_ct (((ga [] _).arr en37_len).weak (List.Sublist.refl _)) (((gw [] _).arr en37_len).weak (by exact drop_auto)) (by omega) ?_))
    repeat (first | refine Z0 ?_ | (refine ZR ?_; first | refine x1 ?_ | refine x2 ?_ | refine x8 ?_ | refine Z1 ?_ | refine Z2 ?_ | refine x3 fun _ => ?_ | refine x4 fun _ => ?_ | refine x5 fun _ => ?_ | refine Z3 fun _ => ?_ | refine Z4 fun _ => ?_) | refine Za ?_ | refine Zb ?_ | refine Zl ?_ | refine Zc ?_ | refine Ze ?_ | refine Zi ?_ | refine Zj ?_ | refine Zf ?_ | refine Zg ?_ | refine Zm ?_ | refine Zn ?_ | refine Zo ?_ | refine Zp ?_ | refine Zq ?_ | refine Zr ?_ | refine Zk ?_)
    exact re_1 rfl rfl (List.Sublist.refl _) (hQ _)
  have hF := hFR her
  clear hFR hER
  obtain ⟨x, hx, hxa, hx4, hxe, hxt⟩ := hF.now
  have hlk := fun {H' : Hp} {Q' : Value → Hp → Prop} h' => lookW (B0 := B0) (old := old) (n := n + 1518) (H := H') (Q := Q') hT1 e.a0 e.a2 h'
  have hx' : findN L1 ⟨e.a0, e.a2⟩ = some x := hx
  rw [hx'] at hlk
  simp only [Option.getD_some, Option.isSome_some] at hlk
  unfold en37 at hlk
  repeat (first | refine Z0 ?_ | (refine ZR ?_; first | refine x1 ?_ | refine x2 ?_ | refine x8 ?_ | refine Z1 ?_ | refine Z2 ?_ | refine x3 fun _ => ?_ | refine x4 fun _ => ?_ | refine x5 fun _ => ?_ | refine Z3 fun _ => ?_ | refine Z4 fun _ => ?_) | refine Za ?_ | refine Zb ?_ | refine Zl ?_ | refine Zc ?_ | refine Ze ?_ | refine Zi ?_ | refine Zj ?_ | refine Zf ?_ | refine Zg ?_ | refine Zm ?_ | refine Zn ?_ | refine Zo ?_ | refine Zp ?_ | refine Zq ?_ | refine Zr ?_ | refine Zk ?_)
  refine rt_step rfl rfl rfl (st_call rfl rfl rfl rfl (CallT.weak (hlk ?_) (by exact drop_auto)))
  repeat (first | refine Z0 ?_ | (refine ZR ?_; first | refine x1 ?_ | refine x2 ?_ | refine x8 ?_ | refine Z1 ?_ | refine Z2 ?_ | refine x3 fun _ => ?_ | refine x4 fun _ => ?_ | refine x5 fun _ => ?_ | refine Z3 fun _ => ?_ | refine Z4 fun _ => ?_) | refine Za ?_ | refine Zb ?_ | refine Zl ?_ | refine Zc ?_ | refine Ze ?_ | refine Zi ?_ | refine Zj ?_ | refine Zf ?_ | refine Zg ?_ | refine Zm ?_ | refine Zn ?_ | refine Zo ?_ | refine Zp ?_ | refine Zq ?_ | refine Zr ?_ | refine Zk ?_)
  rename_i t12
  have hmv : mv = (kn && (ov.a1 != e.a1)) ∧ (kn = false ∨ mv = true → x = e) ∧ (kn = true → mv = false → x.a5 = if e.a5 > ov.a5 then e.a5 else ov.a5) ∧ L1.length = L.length + (if kn = true then 0 else 1) := by
    have key : ∀ o, FindsR L L1 e o mv → o.getD zN = ov → o.isSome = kn → (o = none ∨ mv = true → x = e) → (∀ y, o = some y → mv = false → x.a5 = if e.a5 > y.a5 then e.a5 else y.a5) → mv = (kn && (ov.a1 != e.a1)) ∧ (kn = false ∨ mv = true → x = e) ∧ (kn = true → mv = false → x.a5 = if e.a5 > ov.a5 then e.a5 else ov.a5) ∧ L1.length = L.length + (if kn = true then 0 else 1) := by
      rintro (_ | o) hF hov hkn hxe hxt
      · have hm := hF.mv
        have hl := hF.len
        subst hkn
        exact ⟨hm, fun _ => hxe (.inl rfl), fun h => absurd h (by simp), hl⟩
      · have hm := hF.mv
        have hl := hF.len
        subst hkn
        have : o = ov := hov
        subst this
        refine ⟨?_, fun h => hxe (.inr (h.resolve_left (by simp))), fun _ h => hxt o rfl h, hl⟩
        rw [hm]
        by_cases h : o.a1 = e.a1 <;> simp [h]
    exact key _ hF hov hkn hxe hxt
  obtain ⟨hmv, hxe, hxt, hln⟩ := hmv
  refine rt_midE (ι := Unit) (fun _ => True) (fun _ => [(101, .bool false), (3, .pointer (some ⟨t3, 0, none⟩)), (5, .bool true), (6, .pointer (some ⟨p, 0, none⟩)), (7, .slice adw L.length cw), (8, .pointer (some ⟨t8, 0, none⟩)), (9, .bool kn), (10, .bool mv), (12, .pointer (some ⟨t12, 0, none⟩))]) (fun _ => (t12, .row (en37 x) 6 false) :: (G1 ++ (t8, .row (en37 ov) 6 false) :: (Gw ++ (t3, .row (en37 e) 6 false) :: H))) ?_ ?_
  · rw [show (x.a1 != e.a1) = false by simp [hxa]]
    repeat (first | refine Z0 ?_ | (refine ZR ?_; first | refine x1 ?_ | refine x2 ?_ | refine x8 ?_ | refine Z1 ?_ | refine Z2 ?_ | refine x3 fun _ => ?_ | refine x4 fun _ => ?_ | refine x5 fun _ => ?_ | refine Z3 fun _ => ?_ | refine Z4 fun _ => ?_) | refine Za ?_ | refine Zb ?_ | refine Zl ?_ | refine Zc ?_ | refine Ze ?_ | refine Zi ?_ | refine Zj ?_ | refine Zf ?_ | refine Zg ?_ | refine Zm ?_ | refine Zn ?_ | refine Zo ?_ | refine Zp ?_ | refine Zq ?_ | refine Zr ?_ | refine Zk ?_)
    refine isRun ?_
    refine z1 (fun h4 => ?_) (fun h4 => ?_)
    · repeat (first | refine Z0 ?_ | (refine ZR ?_; first | refine x1 ?_ | refine x2 ?_ | refine x8 ?_ | refine Z1 ?_ | refine Z2 ?_ | refine x3 fun _ => ?_ | refine x4 fun _ => ?_ | refine x5 fun _ => ?_ | refine Z3 fun _ => ?_ | refine Z4 fun _ => ?_) | refine Za ?_ | refine Zb ?_ | refine Zl ?_ | refine Zc ?_ | refine Ze ?_ | refine Zi ?_ | refine Zj ?_ | refine Zf ?_ | refine Zg ?_ | refine Zm ?_ | refine Zn ?_ | refine Zo ?_ | refine Zp ?_ | refine Zq ?_ | refine Zr ?_ | refine Zk ?_)
      rw [(hx4 h4).1]
      repeat (first | refine Z0 ?_ | (refine ZR ?_; first | refine x1 ?_ | refine x2 ?_ | refine x8 ?_ | refine Z1 ?_ | refine Z2 ?_ | refine x3 fun _ => ?_ | refine x4 fun _ => ?_ | refine x5 fun _ => ?_ | refine Z3 fun _ => ?_ | refine Z4 fun _ => ?_) | refine Za ?_ | refine Zb ?_ | refine Zl ?_ | refine Zc ?_ | refine Ze ?_ | refine Zi ?_ | refine Zj ?_ | refine Zf ?_ | refine Zg ?_ | refine Zm ?_ | refine Zn ?_ | refine Zo ?_ | refine Zp ?_ | refine Zq ?_ | refine Zr ?_ | refine Zk ?_)
      rw [show (x.a3 != e.a3) = false by simp [(hx4 h4).2]]
      repeat (first | refine Z0 ?_ | (refine ZR ?_; first | refine x1 ?_ | refine x2 ?_ | refine x8 ?_ | refine Z1 ?_ | refine Z2 ?_ | refine x3 fun _ => ?_ | refine x4 fun _ => ?_ | refine x5 fun _ => ?_ | refine Z3 fun _ => ?_ | refine Z4 fun _ => ?_) | refine Za ?_ | refine Zb ?_ | refine Zl ?_ | refine Zc ?_ | refine Ze ?_ | refine Zi ?_ | refine Zj ?_ | refine Zf ?_ | refine Zg ?_ | refine Zm ?_ | refine Zn ?_ | refine Zo ?_ | refine Zp ?_ | refine Zq ?_ | refine Zr ?_ | refine Zk ?_)
      refine isRun ?_
      refine z1 (fun hk => ?_) (fun hk => ?_)
      · repeat (first | refine Z0 ?_ | (refine ZR ?_; first | refine x1 ?_ | refine x2 ?_ | refine x8 ?_ | refine Z1 ?_ | refine Z2 ?_ | refine x3 fun _ => ?_ | refine x4 fun _ => ?_ | refine x5 fun _ => ?_ | refine Z3 fun _ => ?_ | refine Z4 fun _ => ?_) | refine Za ?_ | refine Zb ?_ | refine Zl ?_ | refine Zc ?_ | refine Ze ?_ | refine Zi ?_ | refine Zj ?_ | refine Zf ?_ | refine Zg ?_ | refine Zm ?_ | refine Zn ?_ | refine Zo ?_ | refine Zp ?_ | refine Zq ?_ | refine Zr ?_ | refine Zk ?_)
        refine ⟨(), trivial, ?_, by simp only [en37, (hx4 h4).1]; exact List.Sublist.refl _⟩
        rw [show (!(mv == (ov.a1 != e.a1))) = false by rw [hmv, hk]; simp]
        repeat (first | exact SubL.nil | refine SubL.cons rfl ?_)
      · repeat (first | refine Z0 ?_ | (refine ZR ?_; first | refine x1 ?_ | refine x2 ?_ | refine x8 ?_ | refine Z1 ?_ | refine Z2 ?_ | refine x3 fun _ => ?_ | refine x4 fun _ => ?_ | refine x5 fun _ => ?_ | refine Z3 fun _ => ?_ | refine Z4 fun _ => ?_) | refine Za ?_ | refine Zb ?_ | refine Zl ?_ | refine Zc ?_ | refine Ze ?_ | refine Zi ?_ | refine Zj ?_ | refine Zf ?_ | refine Zg ?_ | refine Zm ?_ | refine Zn ?_ | refine Zo ?_ | refine Zp ?_ | refine Zq ?_ | refine Zr ?_ | refine Zk ?_)
        refine ⟨(), trivial, ?_, by simp only [en37, (hx4 h4).1]; exact List.Sublist.refl _⟩
        rw [show (!(mv == false)) = false by rw [hmv, hk]; rfl]
        repeat (first | exact SubL.nil | refine SubL.cons rfl ?_)
    · repeat (first | refine Z0 ?_ | (refine ZR ?_; first | refine x1 ?_ | refine x2 ?_ | refine x8 ?_ | refine Z1 ?_ | refine Z2 ?_ | refine x3 fun _ => ?_ | refine x4 fun _ => ?_ | refine x5 fun _ => ?_ | refine Z3 fun _ => ?_ | refine Z4 fun _ => ?_) | refine Za ?_ | refine Zb ?_ | refine Zl ?_ | refine Zc ?_ | refine Ze ?_ | refine Zi ?_ | refine Zj ?_ | refine Zf ?_ | refine Zg ?_ | refine Zm ?_ | refine Zn ?_ | refine Zo ?_ | refine Zp ?_ | refine Zq ?_ | refine Zr ?_ | refine Zk ?_)
      refine isRun ?_
      refine z1 (fun hk => ?_) (fun hk => ?_)
      · repeat (first | refine Z0 ?_ | (refine ZR ?_; first | refine x1 ?_ | refine x2 ?_ | refine x8 ?_ | refine Z1 ?_ | refine Z2 ?_ | refine x3 fun _ => ?_ | refine x4 fun _ => ?_ | refine x5 fun _ => ?_ | refine Z3 fun _ => ?_ | refine Z4 fun _ => ?_) | refine Za ?_ | refine Zb ?_ | refine Zl ?_ | refine Zc ?_ | refine Ze ?_ | refine Zi ?_ | refine Zj ?_ | refine Zf ?_ | refine Zg ?_ | refine Zm ?_ | refine Zn ?_ | refine Zo ?_ | refine Zp ?_ | refine Zq ?_ | refine Zr ?_ | refine Zk ?_)
        refine ⟨(), trivial, ?_, List.Sublist.refl _⟩
        rw [show (!(mv == (ov.a1 != e.a1))) = false by rw [hmv, hk]; simp]
        repeat (first | exact SubL.nil | refine SubL.cons rfl ?_)
      · repeat (first | refine Z0 ?_ | (refine ZR ?_; first | refine x1 ?_ | refine x2 ?_ | refine x8 ?_ | refine Z1 ?_ | refine Z2 ?_ | refine x3 fun _ => ?_ | refine x4 fun _ => ?_ | refine x5 fun _ => ?_ | refine Z3 fun _ => ?_ | refine Z4 fun _ => ?_) | refine Za ?_ | refine Zb ?_ | refine Zl ?_ | refine Zc ?_ | refine Ze ?_ | refine Zi ?_ | refine Zj ?_ | refine Zf ?_ | refine Zg ?_ | refine Zm ?_ | refine Zn ?_ | refine Zo ?_ | refine Zp ?_ | refine Zq ?_ | refine Zr ?_ | refine Zk ?_)
        refine ⟨(), trivial, ?_, List.Sublist.refl _⟩
        rw [show (!(mv == false)) = false by rw [hmv, hk]; rfl]
        repeat (first | exact SubL.nil | refine SubL.cons rfl ?_)
  intro _ _
  repeat (first | refine Z0 ?_ | (refine ZR ?_; first | refine x1 ?_ | refine x2 ?_ | refine x8 ?_ | refine Z1 ?_ | refine Z2 ?_ | refine x3 fun _ => ?_ | refine x4 fun _ => ?_ | refine x5 fun _ => ?_ | refine Z3 fun _ => ?_ | refine Z4 fun _ => ?_) | refine Za ?_ | refine Zb ?_ | refine Zl ?_ | refine Zc ?_ | refine Ze ?_ | refine Zi ?_ | refine Zj ?_ | refine Zf ?_ | refine Zg ?_ | refine Zm ?_ | refine Zn ?_ | refine Zo ?_ | refine Zp ?_ | refine Zq ?_ | refine Zr ?_ | refine Zk ?_)
  refine rt_midE (ι := Unit) (fun _ => True) (fun _ => [(128, .bool false), (3, .pointer (some ⟨t3, 0, none⟩)), (5, .bool true), (6, .pointer (some ⟨p, 0, none⟩)), (7, .slice adw L.length cw), (9, .bool kn)]) (fun _ => (t12, .row (en37 x) 6 false) :: (G1 ++ (t8, .row (en37 ov) 6 false) :: (Gw ++ (t3, .row (en37 e) 6 false) :: H))) ?_ ?_
  · unfold en37
    cases kn
    · obtain rfl := hxe (.inl rfl)
      have hs := leaf37 x x
      rw [decide_eq_true rfl] at hs
      unfold en37 at hs
      repeat (first | refine Z0 ?_ | (refine ZR ?_; first | refine x1 ?_ | refine x2 ?_ | refine x8 ?_ | refine Z1 ?_ | refine Z2 ?_ | refine x3 fun _ => ?_ | refine x4 fun _ => ?_ | refine x5 fun _ => ?_ | refine Z3 fun _ => ?_ | refine Z4 fun _ => ?_) | refine Za ?_ | refine Zb ?_ | refine Zl ?_ | refine Zc ?_ | refine Ze ?_ | refine Zi ?_ | refine Zj ?_ | refine Zf ?_ | refine Zg ?_ | refine Zm ?_ | refine Zn ?_ | refine Zo ?_ | refine Zp ?_ | refine Zq ?_ | refine Zr ?_ | refine Zk ?_)
      rw [hs]
      repeat (first | refine Z0 ?_ | (refine ZR ?_; first | refine x1 ?_ | refine x2 ?_ | refine x8 ?_ | refine Z1 ?_ | refine Z2 ?_ | refine x3 fun _ => ?_ | refine x4 fun _ => ?_ | refine x5 fun _ => ?_ | refine Z3 fun _ => ?_ | refine Z4 fun _ => ?_) | refine Za ?_ | refine Zb ?_ | refine Zl ?_ | refine Zc ?_ | refine Ze ?_ | refine Zi ?_ | refine Zj ?_ | refine Zf ?_ | refine Zg ?_ | refine Zm ?_ | refine Zn ?_ | refine Zo ?_ | refine Zp ?_ | refine Zq ?_ | refine Zr ?_ | refine Zk ?_)
      exact ⟨(), trivial, by repeat (first | exact SubL.nil | refine SubL.cons rfl ?_), List.Sublist.refl _⟩
    · cases mv
      · have hxt := hxt rfl rfl
        repeat (first | refine Z0 ?_ | (refine ZR ?_; first | refine x1 ?_ | refine x2 ?_ | refine x8 ?_ | refine Z1 ?_ | refine Z2 ?_ | refine x3 fun _ => ?_ | refine x4 fun _ => ?_ | refine x5 fun _ => ?_ | refine Z3 fun _ => ?_ | refine Z4 fun _ => ?_) | refine Za ?_ | refine Zb ?_ | refine Zl ?_ | refine Zc ?_ | refine Ze ?_ | refine Zi ?_ | refine Zj ?_ | refine Zf ?_ | refine Zg ?_ | refine Zm ?_ | refine Zn ?_ | refine Zo ?_ | refine Zp ?_ | refine Zq ?_ | refine Zr ?_ | refine Zk ?_)
        rw [show (x.a5 != if e.a5 > ov.a5 then e.a5 else ov.a5) = false by rw [← hxt]; simp]
        repeat (first | refine Z0 ?_ | (refine ZR ?_; first | refine x1 ?_ | refine x2 ?_ | refine x8 ?_ | refine Z1 ?_ | refine Z2 ?_ | refine x3 fun _ => ?_ | refine x4 fun _ => ?_ | refine x5 fun _ => ?_ | refine Z3 fun _ => ?_ | refine Z4 fun _ => ?_) | refine Za ?_ | refine Zb ?_ | refine Zl ?_ | refine Zc ?_ | refine Ze ?_ | refine Zi ?_ | refine Zj ?_ | refine Zf ?_ | refine Zg ?_ | refine Zm ?_ | refine Zn ?_ | refine Zo ?_ | refine Zp ?_ | refine Zq ?_ | refine Zr ?_ | refine Zk ?_)
        exact ⟨(), trivial, by repeat (first | exact SubL.nil | refine SubL.cons rfl ?_), List.Sublist.refl _⟩
      · obtain rfl := hxe (.inr rfl)
        have hs := leaf37 x x
        rw [decide_eq_true rfl] at hs
        unfold en37 at hs
        repeat (first | refine Z0 ?_ | (refine ZR ?_; first | refine x1 ?_ | refine x2 ?_ | refine x8 ?_ | refine Z1 ?_ | refine Z2 ?_ | refine x3 fun _ => ?_ | refine x4 fun _ => ?_ | refine x5 fun _ => ?_ | refine Z3 fun _ => ?_ | refine Z4 fun _ => ?_) | refine Za ?_ | refine Zb ?_ | refine Zl ?_ | refine Zc ?_ | refine Ze ?_ | refine Zi ?_ | refine Zj ?_ | refine Zf ?_ | refine Zg ?_ | refine Zm ?_ | refine Zn ?_ | refine Zo ?_ | refine Zp ?_ | refine Zq ?_ | refine Zr ?_ | refine Zk ?_)
        rw [hs]
        repeat (first | refine Z0 ?_ | (refine ZR ?_; first | refine x1 ?_ | refine x2 ?_ | refine x8 ?_ | refine Z1 ?_ | refine Z2 ?_ | refine x3 fun _ => ?_ | refine x4 fun _ => ?_ | refine x5 fun _ => ?_ | refine Z3 fun _ => ?_ | refine Z4 fun _ => ?_) | refine Za ?_ | refine Zb ?_ | refine Zl ?_ | refine Zc ?_ | refine Ze ?_ | refine Zi ?_ | refine Zj ?_ | refine Zf ?_ | refine Zg ?_ | refine Zm ?_ | refine Zn ?_ | refine Zo ?_ | refine Zp ?_ | refine Zq ?_ | refine Zr ?_ | refine Zk ?_)
        exact ⟨(), trivial, by repeat (first | exact SubL.nil | refine SubL.cons rfl ?_), List.Sublist.refl _⟩
  intro _ _
  repeat (first | refine Z0 ?_ | (refine ZR ?_; first | refine x1 ?_ | refine x2 ?_ | refine x8 ?_ | refine Z1 ?_ | refine Z2 ?_ | refine x3 fun _ => ?_ | refine x4 fun _ => ?_ | refine x5 fun _ => ?_ | refine Z3 fun _ => ?_ | refine Z4 fun _ => ?_) | refine Za ?_ | refine Zb ?_ | refine Zl ?_ | refine Zc ?_ | refine Ze ?_ | refine Zi ?_ | refine Zj ?_ | refine Zf ?_ | refine Zg ?_ | refine Zm ?_ | refine Zn ?_ | refine Zo ?_ | refine Zp ?_ | refine Zq ?_ | refine Zr ?_ | refine Zk ?_)
  refine ct_midE (ι := Unit) (fun _ => True) (fun _ => [(14, .int .i64 (L1.length : Int)), (3, .pointer (some ⟨t3, 0, none⟩)), (5, .bool true), (6, .pointer (some ⟨p, 0, none⟩)), (7, .slice adw L.length cw)]) (fun _ => G1 ++ (Gw ++ (t3, .row (en37 e) 6 false) :: H)) ?_ ?_
  · cases kn
    · repeat (first | refine Z0 ?_ | (refine ZR ?_; first | refine x1 ?_ | refine x2 ?_ | refine x8 ?_ | refine Z1 ?_ | refine Z2 ?_ | refine x3 fun _ => ?_ | refine x4 fun _ => ?_ | refine x5 fun _ => ?_ | refine Z3 fun _ => ?_ | refine Z4 fun _ => ?_) | refine Za ?_ | refine Zb ?_ | refine Zl ?_ | refine Zc ?_ | refine Ze ?_ | refine Zi ?_ | refine Zj ?_ | refine Zf ?_ | refine Zg ?_ | refine Zm ?_ | refine Zn ?_ | refine Zo ?_ | refine Zp ?_ | refine Zq ?_ | refine Zr ?_ | refine Zk ?_)
      exact ⟨(), trivial, by
        refine SubL.consI (q := (L.length : Int) + 1) rfl (by rw [hln]; simp) ?_
        repeat (first | exact SubL.nil | refine SubL.cons rfl ?_), by exact drop_auto⟩
    · repeat (first | refine Z0 ?_ | (refine ZR ?_; first | refine x1 ?_ | refine x2 ?_ | refine x8 ?_ | refine Z1 ?_ | refine Z2 ?_ | refine x3 fun _ => ?_ | refine x4 fun _ => ?_ | refine x5 fun _ => ?_ | refine Z3 fun _ => ?_ | refine Z4 fun _ => ?_) | refine Za ?_ | refine Zb ?_ | refine Zl ?_ | refine Zc ?_ | refine Ze ?_ | refine Zi ?_ | refine Zj ?_ | refine Zf ?_ | refine Zg ?_ | refine Zm ?_ | refine Zn ?_ | refine Zo ?_ | refine Zp ?_ | refine Zq ?_ | refine Zr ?_ | refine Zk ?_)
      exact ⟨(), trivial, by
        refine SubL.consI (q := (L.length : Int)) rfl (by rw [hln]; simp) ?_
        repeat (first | exact SubL.nil | refine SubL.cons rfl ?_), by exact drop_auto⟩
  intro _ _
  have hl1 : L1.length ≤ 1500 := by split at hln <;> omega
  repeat (first | refine Z0 ?_ | (refine ZR ?_; first | refine x1 ?_ | refine x2 ?_ | refine x8 ?_ | refine Z1 ?_ | refine Z2 ?_ | refine x3 fun _ => ?_ | refine x4 fun _ => ?_ | refine x5 fun _ => ?_ | refine Z3 fun _ => ?_ | refine Z4 fun _ => ?_) | refine Za ?_ | refine Zb ?_ | refine Zl ?_ | refine Zc ?_ | refine Ze ?_ | refine Zi ?_ | refine Zj ?_ | refine Zf ?_ | refine Zg ?_ | refine Zm ?_ | refine Zn ?_ | refine Zo ?_ | refine Zp ?_ | refine Zq ?_ | refine Zr ?_ | refine Zk ?_)
  refine loop_ind (ι := Nat) 0 (fun i => L.length - i) (fun i => i ≤ L.length) (fun i => [(15, .int .i64 (i : Int)), (14, .int .i64 (L1.length : Int)), (3, .pointer (some ⟨t3, 0, none⟩)), (5, .bool true), (6, .pointer (some ⟨p, 0, none⟩)), (7, .slice adw L.length cw)]) (fun _ => G1 ++ (Gw ++ (t3, .row (en37 e) 6 false) :: H)) (Nat.zero_le _) (by repeat (first | exact SubL.nil | refine SubL.cons rfl ?_)) (List.Sublist.refl _) ?_
  clear hlk hx hx' hxe hxt hx4 hxa
  have haw : Arr (cx B0 old) (Gw ++ (t3, AObj.row (en37 e) 6 false) :: H) adw 6 en37 L := (gw [] _).arr en37_len
  intro i hi
  repeat (first | refine Z0 ?_ | (refine ZR ?_; first | refine x1 ?_ | refine x2 ?_ | refine x8 ?_ | refine Z1 ?_ | refine Z2 ?_ | refine x3 fun _ => ?_ | refine x4 fun _ => ?_ | refine x5 fun _ => ?_ | refine Z3 fun _ => ?_ | refine Z4 fun _ => ?_) | refine Za ?_ | refine Zb ?_ | refine Zl ?_ | refine Zc ?_ | refine Ze ?_ | refine Zi ?_ | refine Zj ?_ | refine Zf ?_ | refine Zg ?_ | refine Zm ?_ | refine Zn ?_ | refine Zo ?_ | refine Zp ?_ | refine Zq ?_ | refine Zr ?_ | refine Zk ?_)
  refine ct_condT te_d rfl (fun hc => ?_) (fun hc => ?_)
  rotate_left
  · repeat (first | refine Z0 ?_ | (refine ZR ?_; first | refine x1 ?_ | refine x2 ?_ | refine x8 ?_ | refine Z1 ?_ | refine Z2 ?_ | refine x3 fun _ => ?_ | refine x4 fun _ => ?_ | refine x5 fun _ => ?_ | refine Z3 fun _ => ?_ | refine Z4 fun _ => ?_) | refine Za ?_ | refine Zb ?_ | refine Zl ?_ | refine Zc ?_ | refine Ze ?_ | refine Zi ?_ | refine Zj ?_ | refine Zf ?_ | refine Zg ?_ | refine Zm ?_ | refine Zn ?_ | refine Zo ?_ | refine Zp ?_ | refine Zq ?_ | refine Zr ?_ | refine Zk ?_)
    refine rt_step rfl rfl rfl (st_call rfl rfl rfl rfl (CallT.fuel (allW (n := n + 4) hT1 hl1 fun w Ga oa => ?_) rfl))
    obtain ⟨ada, ca, ea, ga⟩ := oa.arrW (C := cx B0 old) en37_len
    subst ea
    repeat (first | refine Z0 ?_ | (refine ZR ?_; first | refine x1 ?_ | refine x2 ?_ | refine x8 ?_ | refine Z1 ?_ | refine Z2 ?_ | refine x3 fun _ => ?_ | refine x4 fun _ => ?_ | refine x5 fun _ => ?_ | refine Z3 fun _ => ?_ | refine Z4 fun _ => ?_) | refine Za ?_ | refine Zb ?_ | refine Zl ?_ | refine Zc ?_ | refine Ze ?_ | refine Zi ?_ | refine Zj ?_ | refine Zf ?_ | refine Zg ?_ | refine Zm ?_ | refine Zn ?_ | refine Zo ?_ | refine Zp ?_ | refine Zq ?_ | refine Zr ?_ | refine Zk ?_)
    rw [show ((L1.length : Int) == (L1.length : Int)) = true by simp]
    repeat (first | refine Z0 ?_ | (refine ZR ?_; first | refine x1 ?_ | refine x2 ?_ | refine x8 ?_ | refine Z1 ?_ | refine Z2 ?_ | refine x3 fun _ => ?_ | refine x4 fun _ => ?_ | refine x5 fun _ => ?_ | refine Z3 fun _ => ?_ | refine Z4 fun _ => ?_) | refine Za ?_ | refine Zb ?_ | refine Zl ?_ | refine Zc ?_ | refine Ze ?_ | refine Zi ?_ | refine Zj ?_ | refine Zf ?_ | refine Zg ?_ | refine Zm ?_ | refine Zn ?_ | refine Zo ?_ | refine Zp ?_ | refine Zq ?_ | refine Zr ?_ | refine Zk ?_)
    exact re_1 rfl rfl (by exact drop_auto) (hQ _)
  obtain ⟨y, hy⟩ : ∃ x, L[i]? = some x := ⟨_, List.getElem?_eq_getElem (by omega)⟩
  have hyL : y ∈ L := List.mem_of_getElem? hy
  obtain ⟨b1, o1, e1, hL0⟩ := haw.ldW 37 hy rfl (sz rfl)
  subst e1
  clear haw
  unfold en37 at hL0
  repeat (first | refine Z0 ?_ | (refine ZR ?_; first | refine x1 ?_ | refine x2 ?_ | refine x8 ?_ | refine Z1 ?_ | refine Z2 ?_ | refine x3 fun _ => ?_ | refine x4 fun _ => ?_ | refine x5 fun _ => ?_ | refine Z3 fun _ => ?_ | refine Z4 fun _ => ?_) | refine Za ?_ | refine Zb ?_ | refine Zl ?_ | refine Zc ?_ | refine Ze ?_ | refine Zi ?_ | refine Zj ?_ | refine Zf ?_ | refine Zg ?_ | refine Zm ?_ | refine Zn ?_ | refine Zo ?_ | refine Zp ?_ | refine Zq ?_ | refine Zr ?_ | refine Zk ?_)
  rename_i t16
  by_cases hk : kOf y = kOf e
  · obtain ⟨hk0, hk2⟩ : y.a0 = e.a0 ∧ y.a2 = e.a2 := by unfold kOf at hk; injection hk with g1 g2; exact ⟨g1, g2⟩
    rw [show (y.a0 == e.a0) = true by simp [hk0]]
    repeat (first | refine Z0 ?_ | (refine ZR ?_; first | refine x1 ?_ | refine x2 ?_ | refine x8 ?_ | refine Z1 ?_ | refine Z2 ?_ | refine x3 fun _ => ?_ | refine x4 fun _ => ?_ | refine x5 fun _ => ?_ | refine Z3 fun _ => ?_ | refine Z4 fun _ => ?_) | refine Za ?_ | refine Zb ?_ | refine Zl ?_ | refine Zc ?_ | refine Ze ?_ | refine Zi ?_ | refine Zj ?_ | refine Zf ?_ | refine Zg ?_ | refine Zm ?_ | refine Zn ?_ | refine Zo ?_ | refine Zp ?_ | refine Zq ?_ | refine Zr ?_ | refine Zk ?_)
    rw [show (y.a2 == e.a2) = true by simp [hk2]]
    repeat (first | refine Z0 ?_ | (refine ZR ?_; first | refine x1 ?_ | refine x2 ?_ | refine x8 ?_ | refine Z1 ?_ | refine Z2 ?_ | refine x3 fun _ => ?_ | refine x4 fun _ => ?_ | refine x5 fun _ => ?_ | refine Z3 fun _ => ?_ | refine Z4 fun _ => ?_) | refine Za ?_ | refine Zb ?_ | refine Zl ?_ | refine Zc ?_ | refine Ze ?_ | refine Zi ?_ | refine Zj ?_ | refine Zf ?_ | refine Zg ?_ | refine Zm ?_ | refine Zn ?_ | refine Zo ?_ | refine Zp ?_ | refine Zq ?_ | refine Zr ?_ | refine Zk ?_)
    exact ⟨i + 1, by omega, by omega, by repeat (first | exact SubL.nil | refine SubL.cons rfl ?_), by exact drop_auto⟩
  refine rt_midE (ι := Unit) (fun _ => True) (fun _ => [(156, .bool false), (15, .int .i64 (i : Int)), (16, .pointer (some ⟨t16, 0, none⟩)), (14, .int .i64 (L1.length : Int)), (3, .pointer (some ⟨t3, 0, none⟩)), (5, .bool true), (6, .pointer (some ⟨p, 0, none⟩)), (7, .slice (some ⟨b1, o1, none⟩) L.length cw)]) (fun _ => (t16, .row [.int .i64 y.a0, .int .i64 y.a1, .int .u64 y.a2, .int .u32 y.a3, .bool y.a4, .int .i64 y.a5] 6 false) :: (G1 ++ (Gw ++ (t3, .row (en37 e) 6 false) :: H))) ?_ ?_
  · by_cases h0 : y.a0 = e.a0
    · rw [show (y.a0 == e.a0) = true by simp [h0]]
      repeat (first | refine Z0 ?_ | (refine ZR ?_; first | refine x1 ?_ | refine x2 ?_ | refine x8 ?_ | refine Z1 ?_ | refine Z2 ?_ | refine x3 fun _ => ?_ | refine x4 fun _ => ?_ | refine x5 fun _ => ?_ | refine Z3 fun _ => ?_ | refine Z4 fun _ => ?_) | refine Za ?_ | refine Zb ?_ | refine Zl ?_ | refine Zc ?_ | refine Ze ?_ | refine Zi ?_ | refine Zj ?_ | refine Zf ?_ | refine Zg ?_ | refine Zm ?_ | refine Zn ?_ | refine Zo ?_ | refine Zp ?_ | refine Zq ?_ | refine Zr ?_ | refine Zk ?_)
      rw [show (y.a2 == e.a2) = false by simpa using fun g => hk (by unfold kOf; rw [h0, g])]
      repeat (first | refine Z0 ?_ | (refine ZR ?_; first | refine x1 ?_ | refine x2 ?_ | refine x8 ?_ | refine Z1 ?_ | refine Z2 ?_ | refine x3 fun _ => ?_ | refine x4 fun _ => ?_ | refine x5 fun _ => ?_ | refine Z3 fun _ => ?_ | refine Z4 fun _ => ?_) | refine Za ?_ | refine Zb ?_ | refine Zl ?_ | refine Zc ?_ | refine Ze ?_ | refine Zi ?_ | refine Zj ?_ | refine Zf ?_ | refine Zg ?_ | refine Zm ?_ | refine Zn ?_ | refine Zo ?_ | refine Zp ?_ | refine Zq ?_ | refine Zr ?_ | refine Zk ?_)
      exact ⟨(), trivial, by repeat (first | exact SubL.nil | refine SubL.cons rfl ?_), List.Sublist.refl _⟩
    · rw [show (y.a0 == e.a0) = false by simpa using h0]
      repeat (first | refine Z0 ?_ | (refine ZR ?_; first | refine x1 ?_ | refine x2 ?_ | refine x8 ?_ | refine Z1 ?_ | refine Z2 ?_ | refine x3 fun _ => ?_ | refine x4 fun _ => ?_ | refine x5 fun _ => ?_ | refine Z3 fun _ => ?_ | refine Z4 fun _ => ?_) | refine Za ?_ | refine Zb ?_ | refine Zl ?_ | refine Zc ?_ | refine Ze ?_ | refine Zi ?_ | refine Zj ?_ | refine Zf ?_ | refine Zg ?_ | refine Zm ?_ | refine Zn ?_ | refine Zo ?_ | refine Zp ?_ | refine Zq ?_ | refine Zr ?_ | refine Zk ?_)
      exact ⟨(), trivial, by repeat (first | exact SubL.nil | refine SubL.cons rfl ?_), List.Sublist.refl _⟩
  intro _ _
  repeat (first | refine Z0 ?_ | (refine ZR ?_; first | refine x1 ?_ | refine x2 ?_ | refine x8 ?_ | refine Z1 ?_ | refine Z2 ?_ | refine x3 fun _ => ?_ | refine x4 fun _ => ?_ | refine x5 fun _ => ?_ | refine Z3 fun _ => ?_ | refine Z4 fun _ => ?_) | refine Za ?_ | refine Zb ?_ | refine Zl ?_ | refine Zc ?_ | refine Ze ?_ | refine Zi ?_ | refine Zj ?_ | refine Zf ?_ | refine Zg ?_ | refine Zm ?_ | refine Zn ?_ | refine Zo ?_ | refine Zp ?_ | refine Zq ?_ | refine Zr ?_ | refine Zk ?_)
  have hs := hF.oth y hyL hk
  refine rt_midE (ι := Bool) (fun b => b = decide (e.a4 = true ∧ y.a0 = e.a0 ∧ y.a3 = e.a3)) (fun b => [(172, .bool b), (15, .int .i64 (i : Int)), (16, .pointer (some ⟨t16, 0, none⟩)), (14, .int .i64 (L1.length : Int)), (3, .pointer (some ⟨t3, 0, none⟩)), (5, .bool true), (6, .pointer (some ⟨p, 0, none⟩)), (7, .slice (some ⟨b1, o1, none⟩) L.length cw)]) (fun _ => (t16, .row [.int .i64 y.a0, .int .i64 y.a1, .int .u64 y.a2, .int .u32 y.a3, .bool y.a4, .int .i64 y.a5] 6 false) :: (G1 ++ (Gw ++ (t3, .row (en37 e) 6 false) :: H))) ?_ ?_
  · refine isRun ?_
    refine z1 (fun h4 => ?_) (fun h4 => ?_)
    · by_cases h0 : y.a0 = e.a0
      · by_cases h3 : y.a3 = e.a3
        · repeat (first | refine Z0 ?_ | (refine ZR ?_; first | refine x1 ?_ | refine x2 ?_ | refine x8 ?_ | refine Z1 ?_ | refine Z2 ?_ | refine x3 fun _ => ?_ | refine x4 fun _ => ?_ | refine x5 fun _ => ?_ | refine Z3 fun _ => ?_ | refine Z4 fun _ => ?_) | refine Za ?_ | refine Zb ?_ | refine Zl ?_ | refine Zc ?_ | refine Ze ?_ | refine Zi ?_ | refine Zj ?_ | refine Zf ?_ | refine Zg ?_ | refine Zm ?_ | refine Zn ?_ | refine Zo ?_ | refine Zp ?_ | refine Zq ?_ | refine Zr ?_ | refine Zk ?_)
          rw [show (y.a0 == e.a0) = true by simp [h0]]
          repeat (first | refine Z0 ?_ | (refine ZR ?_; first | refine x1 ?_ | refine x2 ?_ | refine x8 ?_ | refine Z1 ?_ | refine Z2 ?_ | refine x3 fun _ => ?_ | refine x4 fun _ => ?_ | refine x5 fun _ => ?_ | refine Z3 fun _ => ?_ | refine Z4 fun _ => ?_) | refine Za ?_ | refine Zb ?_ | refine Zl ?_ | refine Zc ?_ | refine Ze ?_ | refine Zi ?_ | refine Zj ?_ | refine Zf ?_ | refine Zg ?_ | refine Zm ?_ | refine Zn ?_ | refine Zo ?_ | refine Zp ?_ | refine Zq ?_ | refine Zr ?_ | refine Zk ?_)
          rw [show (y.a3 == e.a3) = true by simp [h3]]
          repeat (first | refine Z0 ?_ | (refine ZR ?_; first | refine x1 ?_ | refine x2 ?_ | refine x8 ?_ | refine Z1 ?_ | refine Z2 ?_ | refine x3 fun _ => ?_ | refine x4 fun _ => ?_ | refine x5 fun _ => ?_ | refine Z3 fun _ => ?_ | refine Z4 fun _ => ?_) | refine Za ?_ | refine Zb ?_ | refine Zl ?_ | refine Zc ?_ | refine Ze ?_ | refine Zi ?_ | refine Zj ?_ | refine Zf ?_ | refine Zg ?_ | refine Zm ?_ | refine Zn ?_ | refine Zo ?_ | refine Zp ?_ | refine Zq ?_ | refine Zr ?_ | refine Zk ?_)
          exact ⟨true, by simp [h4, h0, h3], by repeat (first | exact SubL.nil | refine SubL.cons rfl ?_), List.Sublist.refl _⟩
        · repeat (first | refine Z0 ?_ | (refine ZR ?_; first | refine x1 ?_ | refine x2 ?_ | refine x8 ?_ | refine Z1 ?_ | refine Z2 ?_ | refine x3 fun _ => ?_ | refine x4 fun _ => ?_ | refine x5 fun _ => ?_ | refine Z3 fun _ => ?_ | refine Z4 fun _ => ?_) | refine Za ?_ | refine Zb ?_ | refine Zl ?_ | refine Zc ?_ | refine Ze ?_ | refine Zi ?_ | refine Zj ?_ | refine Zf ?_ | refine Zg ?_ | refine Zm ?_ | refine Zn ?_ | refine Zo ?_ | refine Zp ?_ | refine Zq ?_ | refine Zr ?_ | refine Zk ?_)
          rw [show (y.a0 == e.a0) = true by simp [h0]]
          repeat (first | refine Z0 ?_ | (refine ZR ?_; first | refine x1 ?_ | refine x2 ?_ | refine x8 ?_ | refine Z1 ?_ | refine Z2 ?_ | refine x3 fun _ => ?_ | refine x4 fun _ => ?_ | refine x5 fun _ => ?_ | refine Z3 fun _ => ?_ | refine Z4 fun _ => ?_) | refine Za ?_ | refine Zb ?_ | refine Zl ?_ | refine Zc ?_ | refine Ze ?_ | refine Zi ?_ | refine Zj ?_ | refine Zf ?_ | refine Zg ?_ | refine Zm ?_ | refine Zn ?_ | refine Zo ?_ | refine Zp ?_ | refine Zq ?_ | refine Zr ?_ | refine Zk ?_)
          rw [show (y.a3 == e.a3) = false by simp [h3]]
          repeat (first | refine Z0 ?_ | (refine ZR ?_; first | refine x1 ?_ | refine x2 ?_ | refine x8 ?_ | refine Z1 ?_ | refine Z2 ?_ | refine x3 fun _ => ?_ | refine x4 fun _ => ?_ | refine x5 fun _ => ?_ | refine Z3 fun _ => ?_ | refine Z4 fun _ => ?_) | refine Za ?_ | refine Zb ?_ | refine Zl ?_ | refine Zc ?_ | refine Ze ?_ | refine Zi ?_ | refine Zj ?_ | refine Zf ?_ | refine Zg ?_ | refine Zm ?_ | refine Zn ?_ | refine Zo ?_ | refine Zp ?_ | refine Zq ?_ | refine Zr ?_ | refine Zk ?_)
          exact ⟨false, by simp [h3], by repeat (first | exact SubL.nil | refine SubL.cons rfl ?_), List.Sublist.refl _⟩
      · repeat (first | refine Z0 ?_ | (refine ZR ?_; first | refine x1 ?_ | refine x2 ?_ | refine x8 ?_ | refine Z1 ?_ | refine Z2 ?_ | refine x3 fun _ => ?_ | refine x4 fun _ => ?_ | refine x5 fun _ => ?_ | refine Z3 fun _ => ?_ | refine Z4 fun _ => ?_) | refine Za ?_ | refine Zb ?_ | refine Zl ?_ | refine Zc ?_ | refine Ze ?_ | refine Zi ?_ | refine Zj ?_ | refine Zf ?_ | refine Zg ?_ | refine Zm ?_ | refine Zn ?_ | refine Zo ?_ | refine Zp ?_ | refine Zq ?_ | refine Zr ?_ | refine Zk ?_)
        rw [show (y.a0 == e.a0) = false by simpa using h0]
        repeat (first | refine Z0 ?_ | (refine ZR ?_; first | refine x1 ?_ | refine x2 ?_ | refine x8 ?_ | refine Z1 ?_ | refine Z2 ?_ | refine x3 fun _ => ?_ | refine x4 fun _ => ?_ | refine x5 fun _ => ?_ | refine Z3 fun _ => ?_ | refine Z4 fun _ => ?_) | refine Za ?_ | refine Zb ?_ | refine Zl ?_ | refine Zc ?_ | refine Ze ?_ | refine Zi ?_ | refine Zj ?_ | refine Zf ?_ | refine Zg ?_ | refine Zm ?_ | refine Zn ?_ | refine Zo ?_ | refine Zp ?_ | refine Zq ?_ | refine Zr ?_ | refine Zk ?_)
        exact ⟨false, by simp [h0], by repeat (first | exact SubL.nil | refine SubL.cons rfl ?_), List.Sublist.refl _⟩
    · repeat (first | refine Z0 ?_ | (refine ZR ?_; first | refine x1 ?_ | refine x2 ?_ | refine x8 ?_ | refine Z1 ?_ | refine Z2 ?_ | refine x3 fun _ => ?_ | refine x4 fun _ => ?_ | refine x5 fun _ => ?_ | refine Z3 fun _ => ?_ | refine Z4 fun _ => ?_) | refine Za ?_ | refine Zb ?_ | refine Zl ?_ | refine Zc ?_ | refine Ze ?_ | refine Zi ?_ | refine Zj ?_ | refine Zf ?_ | refine Zg ?_ | refine Zm ?_ | refine Zn ?_ | refine Zo ?_ | refine Zp ?_ | refine Zq ?_ | refine Zr ?_ | refine Zk ?_)
      exact ⟨false, by simp [h4], by repeat (first | exact SubL.nil | refine SubL.cons rfl ?_), List.Sublist.refl _⟩
  rintro (_ | _) hb
  · rw [show stE e y = y from if_neg (of_decide_eq_false hb.symm)] at hs
    have hh := fun {H' : Hp} {Q' : Value → Hp → Prop} => has22_ct (B0 := B0) (old := old) (n := n + 1517) (H := H') (Q := Q') hT1 y hs
    unfold en37 at hh
    repeat (first | refine Z0 ?_ | (refine ZR ?_; first | refine x1 ?_ | refine x2 ?_ | refine x8 ?_ | refine Z1 ?_ | refine Z2 ?_ | refine x3 fun _ => ?_ | refine x4 fun _ => ?_ | refine x5 fun _ => ?_ | refine Z3 fun _ => ?_ | refine Z4 fun _ => ?_) | refine Za ?_ | refine Zb ?_ | refine Zl ?_ | refine Zc ?_ | refine Ze ?_ | refine Zi ?_ | refine Zj ?_ | refine Zf ?_ | refine Zg ?_ | refine Zm ?_ | refine Zn ?_ | refine Zo ?_ | refine Zp ?_ | refine Zq ?_ | refine Zr ?_ | refine Zk ?_)
    refine rt_step rfl rfl rfl (st_call rfl rfl rfl rfl (CallT.perm (hh ?_) List.perm_middle))
    repeat (first | refine Z0 ?_ | (refine ZR ?_; first | refine x1 ?_ | refine x2 ?_ | refine x8 ?_ | refine Z1 ?_ | refine Z2 ?_ | refine x3 fun _ => ?_ | refine x4 fun _ => ?_ | refine x5 fun _ => ?_ | refine Z3 fun _ => ?_ | refine Z4 fun _ => ?_) | refine Za ?_ | refine Zb ?_ | refine Zl ?_ | refine Zc ?_ | refine Ze ?_ | refine Zi ?_ | refine Zj ?_ | refine Zf ?_ | refine Zg ?_ | refine Zm ?_ | refine Zn ?_ | refine Zo ?_ | refine Zp ?_ | refine Zq ?_ | refine Zr ?_ | refine Zk ?_)
    exact ⟨i + 1, by omega, by omega, by repeat (first | exact SubL.nil | refine SubL.cons rfl ?_), by exact drop_auto⟩
  · rw [show stE e y = { y with a3 := 0, a4 := false } from if_pos (of_decide_eq_true hb.symm)] at hs
    have hh := fun {H' : Hp} {Q' : Value → Hp → Prop} => has22_ct (B0 := B0) (old := old) (n := n + 1517) (H := H') (Q := Q') hT1 { y with a3 := 0, a4 := false } hs
    unfold en37 at hh
    dsimp only at hh
    repeat (first | refine Z0 ?_ | (refine ZR ?_; first | refine x1 ?_ | refine x2 ?_ | refine x8 ?_ | refine Z1 ?_ | refine Z2 ?_ | refine x3 fun _ => ?_ | refine x4 fun _ => ?_ | refine x5 fun _ => ?_ | refine Z3 fun _ => ?_ | refine Z4 fun _ => ?_) | refine Za ?_ | refine Zb ?_ | refine Zl ?_ | refine Zc ?_ | refine Ze ?_ | refine Zi ?_ | refine Zj ?_ | refine Zf ?_ | refine Zg ?_ | refine Zm ?_ | refine Zn ?_ | refine Zo ?_ | refine Zp ?_ | refine Zq ?_ | refine Zr ?_ | refine Zk ?_)
    refine rt_step rfl rfl rfl (st_call rfl rfl rfl rfl (CallT.perm (hh ?_) List.perm_middle))
    repeat (first | refine Z0 ?_ | (refine ZR ?_; first | refine x1 ?_ | refine x2 ?_ | refine x8 ?_ | refine Z1 ?_ | refine Z2 ?_ | refine x3 fun _ => ?_ | refine x4 fun _ => ?_ | refine x5 fun _ => ?_ | refine Z3 fun _ => ?_ | refine Z4 fun _ => ?_) | refine Za ?_ | refine Zb ?_ | refine Zl ?_ | refine Zc ?_ | refine Ze ?_ | refine Zi ?_ | refine Zj ?_ | refine Zf ?_ | refine Zg ?_ | refine Zm ?_ | refine Zn ?_ | refine Zo ?_ | refine Zp ?_ | refine Zq ?_ | refine Zr ?_ | refine Zk ?_)
    exact ⟨i + 1, by omega, by omega, by repeat (first | exact SubL.nil | refine SubL.cons rfl ?_), by exact drop_auto⟩
end
end Go.Proofs.Ytojnbjandkbkmaa.Abs

/- The readings for the statement LearnFinds. -/
