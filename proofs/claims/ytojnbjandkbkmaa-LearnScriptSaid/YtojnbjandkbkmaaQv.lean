/- Contracts of the program's removal of entries. -/
import Derived.Test.YtojnbjandkbkmaaQu
import Derived.Test.YtojnbjandkbkmaaQn
namespace Go.Proofs.Ytojnbjandkbkmaa.Abs
open Go
set_option linter.unusedVariables false
/-- A function value that tells which entries are to be removed, by what lies in memory. -/
def MatchT (C : Ctx) (Hm : Hp) (mf : Value) (pr : S37 → Bool) : Prop :=
  ∃ g cap, mf = .func (.func g) #[] cap ∧ callable C g = true ∧ ∀ (n : Nat) (x : S37) (H : Hp) (Q : Value → Hp → Prop), okE x → (∀ b ∈ Hm, b ∈ H) → Q (.bool (pr x)) H → CallT C (acall C ansP (n + 1)) g ((#[] : Array Value).toList ++ ([.agg ⟨en37 x⟩] ++ cap.toList)) H Q
/-- What is left of a map when those of the visited entries that match are deleted. -/
def leftM (pr : S37 → Bool) (vs ms : List (Kk × S37 × Nat)) : List (Kk × S37 × Nat) := ms.filter fun q => !((vs.map (·.2.2)).contains q.2.2 && pr q.2.1)
def goneM (pr : S37 → Bool) (vs : List (Kk × S37 × Nat)) : List S37 := (vs.filter fun q => pr q.2.1).map (·.2.1)
theorem leftM_nil (pr : S37 → Bool) (ms : List (Kk × S37 × Nat)) : leftM pr [] ms = ms := List.filter_eq_self.2 fun q _ => rfl
theorem leftM_no {pr : S37 → Bool} {vs ms : List (Kk × S37 × Nat)} {c : Nat} {p : Kk × S37 × Nat} (hb : Born ms c) (hp : p ∈ ms) (h : pr p.2.1 = false) : leftM pr (vs ++ [p]) ms = leftM pr vs ms := by
  refine List.filter_congr fun q hq => ?_
  by_cases e : q.2.2 = p.2.2
  · rw [hb.inj hq hp e, h]; simp
  · have : ((vs ++ [p]).map (·.2.2)).contains q.2.2 = (vs.map (·.2.2)).contains q.2.2 := by
      rw [List.map_append, List.contains_eq_mem, List.contains_eq_mem]
      refine decide_eq_decide.2 ⟨fun g => ?_, fun g => List.mem_append_left _ g⟩
      rcases List.mem_append.1 g with g | g
      · exact g
      · exact absurd (List.mem_singleton.1 g) e
    rw [this]
theorem leftM_yes {pr : S37 → Bool} {vs ms : List (Kk × S37 × Nat)} {c : Nat} {p : Kk × S37 × Nat} (hb : Born ms c) (hu : Uq ms) (hp : p ∈ ms) (h : pr p.2.1 = true) : leftM pr (vs ++ [p]) ms = delH (leftM pr vs ms) p.1 := by
  rw [del_eq (show Uq (leftM pr vs ms) from hu.sublist (List.filter_sublist.map _))]
  unfold leftM
  rw [List.filter_filter]
  refine List.filter_congr fun q hq => ?_
  rw [List.map_append]
  by_cases e : q.2.2 = p.2.2
  · have := hb.inj hq hp e
    rw [this, h]; simp [List.mem_append]
  · have hne : q.1 ≠ p.1 := fun g => e (by rw [nodup_map_inj (f := fun q : Kk × S37 × Nat => q.1) hu hq hp g])
    have : ((vs.map (·.2.2)) ++ [p].map (·.2.2)).contains q.2.2 = (vs.map (·.2.2)).contains q.2.2 := by
      rw [List.contains_eq_mem, List.contains_eq_mem]
      refine decide_eq_decide.2 ⟨fun g => ?_, fun g => List.mem_append_left _ g⟩
      rcases List.mem_append.1 g with g | g
      · exact g
      · exact absurd (List.mem_singleton.1 g) e
    rw [this]
    simp [hne]
theorem goneM_no {pr : S37 → Bool} {vs : List (Kk × S37 × Nat)} {p : Kk × S37 × Nat} (h : pr p.2.1 = false) : goneM pr (vs ++ [p]) = goneM pr vs := by
  unfold goneM; rw [List.filter_append, List.filter_cons_of_neg (by rw [h]; decide), List.filter_nil, List.append_nil]
theorem goneM_yes {pr : S37 → Bool} {vs : List (Kk × S37 × Nat)} {p : Kk × S37 × Nat} (h : pr p.2.1 = true) : goneM pr (vs ++ [p]) = goneM pr vs ++ [p.2.1] := by
  unfold goneM; simp [h]
section
variable {B0 : Nat} {old : Nat → Option (List Value)} {n : Nat} {H Hs Hm : Hp} {Q : Value → Hp → Prop} {p ob eb co c : Nat} {age : Int} {os : List ((Int × Int) × Int × Nat)} {ms : List (Kk × S37 × Nat)} {L : List S37} {mf : Value} {pr : S37 → Bool}
set_option maxRecDepth 10000
set_option maxHeartbeats 8000000
theorem del61_ct {a1 a2 a3 a4 : Nat × AObj} {t3 t5 : Nat} {gs : List S37} {v : Value} {G : Hp} (hM : MatchT (cx B0 old) Hm mf pr) (hHm : ∀ b ∈ Hm, b ∈ H) (k : Kk) (x : S37) (hx : okE x) (ho : Own en37 6 gs v G) (hl : gs.length ≤ 2000)
    (hno : pr x = false → Q (.bool false) (a1 :: a2 :: a3 :: a4 :: (t3, .row [mf] 1 false) :: (t5, .row [v] 1 false) :: (G ++ H)))
    (hyes : pr x = true → ∀ v' G', Own en37 6 (gs ++ [x]) v' G' → Q (.bool true) (a1 :: a2 :: a3 :: a4 :: (t3, .row [mf] 1 false) :: (t5, .row [v'] 1 false) :: (G' ++ H))) :
    CallT (cx B0 old) (acall (cx B0 old) ansP (n + 2)) 61 [.agg ⟨enK k⟩, .agg ⟨en37 x⟩, .pointer (some ⟨t3, 0, none⟩), .pointer (some ⟨t5, 0, none⟩)] (a1 :: a2 :: a3 :: a4 :: (t3, .row [mf] 1 false) :: (t5, .row [v] 1 false) :: (G ++ H)) Q := by
  obtain ⟨g, cap, rfl, hcal, hm⟩ := hM
  obtain ⟨ad, c1, e1, _⟩ := ho.arrW (C := cx B0 old) en37_len
  subst e1
  refine call_in4 15 rfl Try.func61 rfl rfl ?_
  have hm := hm n x
  unfold enK en37 at *
  repeat (first | refine Z0 ?_ | (refine ZR ?_; first | refine x1 ?_ | refine x2 ?_ | refine x8 ?_ | refine Z1 ?_ | refine Z2 ?_ | refine x3 fun _ => ?_ | refine x4 fun _ => ?_ | refine x5 fun _ => ?_ | refine Z3 fun _ => ?_ | refine Z4 fun _ => ?_) | refine ZC ?_)
  refine rt_step rfl rfl rfl (st_call rfl rfl hcal rfl (hm _ _ hx (fun b hb => ?_) ?_))
  · exact List.Mem.tail _ (List.Mem.tail _ (List.Mem.tail _ (List.Mem.tail _ (List.Mem.tail _ (List.Mem.tail _ (List.Mem.tail _ (List.Mem.tail _ (List.mem_append_right _ (hHm b hb)))))))))
  cases hp : pr x with
  | false =>
    repeat (first | refine Z0 ?_ | (refine ZR ?_; first | refine x1 ?_ | refine x2 ?_ | refine x8 ?_ | refine Z1 ?_ | refine Z2 ?_ | refine x3 fun _ => ?_ | refine x4 fun _ => ?_ | refine x5 fun _ => ?_ | refine Z3 fun _ => ?_ | refine Z4 fun _ => ?_) | refine ZC ?_)
    exact re_1 rfl rfl (by exact drop_auto) (hno hp)
  | true =>
    repeat (first | refine Z0 ?_ | (refine ZR ?_; first | refine x1 ?_ | refine x2 ?_ | refine x8 ?_ | refine Z1 ?_ | refine Z2 ?_ | refine x3 fun _ => ?_ | refine x4 fun _ => ?_ | refine x5 fun _ => ?_ | refine Z3 fun _ => ?_ | refine Z4 fun _ => ?_) | refine ZC ?_)
    refine rt_step rfl rfl rfl (st_appP (M := [x]) (c := 1) (pre := [_, _, _, _, _, _, _, _, _]) ho en37_len en37_one rfl rfl (ap rfl) (arrW_one en37_len hm0) (Nat.le_trans (Nat.mul_le_mul_right _ (show 2 * (gs.length + [x].length) + 192 ≤ 6000 by simp only [List.length_singleton]; omega)) (by decide)) fun v1 G1 o1 => ?_)
    obtain ⟨ad5, c5, e5, _⟩ := o1.arrW (C := cx B0 old) en37_len
    subst e5
    repeat (first | refine Z0 ?_ | (refine ZR ?_; first | refine x1 ?_ | refine x2 ?_ | refine x8 ?_ | refine Z1 ?_ | refine Z2 ?_ | refine x3 fun _ => ?_ | refine x4 fun _ => ?_ | refine x5 fun _ => ?_ | refine Z3 fun _ => ?_ | refine Z4 fun _ => ?_) | refine ZC ?_)
    exact re_1 rfl rfl (by exact drop_auto) (hyes hp _ _ o1)
theorem delF60_ct {t3 t5 : Nat} {v : Value} {G : Hp} (hM : MatchT (cx B0 old) Hm mf pr) (hHm : ∀ b ∈ Hm, b ∈ H) (hb : Born ms c) (hu : Uq ms) (hv : ∀ q ∈ ms, okE q.2.1) (hl : ms.length ≤ 2000) (ho : Own en37 6 [] v G)
    (hQ : ∀ w (vs : List (Kk × S37 × Nat)) v' G', vs.Perm ms → Own en37 6 (goneM pr vs) v' G' → Q w ((eb, .map (mkH ekK evN (leftM pr vs ms)) c) :: (t3, .row [mf] 1 false) :: (t5, .row [v'] 1 false) :: (G' ++ H))) :
    CallT (cx B0 old) (acall (cx B0 old) ansP (n + 3)) 60 [.map (some eb), .func (.func 61) #[] #[.pointer (some ⟨t3, 0, none⟩), .pointer (some ⟨t5, 0, none⟩)]]
      ((eb, .map (mkH ekK evN ms) c) :: (t3, .row [mf] 1 false) :: (t5, .row [v] 1 false) :: (G ++ H)) Q := by
  refine call_in2 19 rfl Try.func60 rfl rfl ?_
  repeat (first | refine Z0 ?_ | (refine ZR ?_; first | refine x1 ?_ | refine x2 ?_ | refine x8 ?_ | refine Z1 ?_ | refine Z2 ?_ | refine x3 fun _ => ?_ | refine x4 fun _ => ?_ | refine x5 fun _ => ?_ | refine Z3 fun _ => ?_ | refine Z4 fun _ => ?_) | refine ZC ?_)
  refine rt_step rfl rfl rfl (st_range rfl (List.Mem.head _) rfl fun it => ?_)
  repeat (first | refine Z0 ?_ | (refine ZR ?_; first | refine x1 ?_ | refine x2 ?_ | refine x8 ?_ | refine Z1 ?_ | refine Z2 ?_ | refine x3 fun _ => ?_ | refine x4 fun _ => ?_ | refine x5 fun _ => ?_ | refine Z3 fun _ => ?_ | refine Z4 fun _ => ?_) | refine ZC ?_)
  refine loop_ind (ι := List (Kk × S37 × Nat) × Value × Hp) ([], v, G) (fun i => ms.length - i.1.length) (fun i => i.1.Nodup ∧ (∀ p ∈ i.1, p ∈ ms) ∧ Own en37 6 (goneM pr i.1) i.2.1 i.2.2)
    (fun i => [(7, .pointer (some ⟨it, 0, none⟩)), (0, .map (some eb)), (1, .func (.func 61) #[] #[.pointer (some ⟨t3, 0, none⟩), .pointer (some ⟨t5, 0, none⟩)])])
    (fun i => (it, .iter (some eb) c (i.1.map (·.2.2)) c) :: (eb, .map (mkH ekK evN (leftM pr i.1 ms)) c) :: (t3, .row [mf] 1 false) :: (t5, .row [i.2.1] 1 false) :: (i.2.2 ++ H)) ⟨List.nodup_nil, fun p h => (by cases h), ho⟩ (by repeat (first | exact SubL.nil | refine SubL.cons rfl ?_)) (by rw [leftM_nil]; exact List.Sublist.refl _) ?_
  clear ho
  rintro ⟨vs, va, Ga⟩ ⟨hnd, hsub, oa⟩
  dsimp only at hnd hsub oa ⊢
  have hmsd : ms.Nodup := (List.pairwise_map.1 hb.nd).imp fun h e => h (by rw [e])
  have hbl : Born (leftM pr vs ms) c := hb.sub List.filter_sublist
  have hvl := nd_len hnd hsub
  have hgl : (goneM pr vs).length ≤ vs.length := by unfold goneM; rw [List.length_map]; exact List.length_filter_le _ _
  repeat (first | refine Z0 ?_ | (refine ZR ?_; first | refine x1 ?_ | refine x2 ?_ | refine x8 ?_ | refine Z1 ?_ | refine Z2 ?_ | refine x3 fun _ => ?_ | refine x4 fun _ => ?_ | refine x5 fun _ => ?_ | refine Z3 fun _ => ?_ | refine Z4 fun _ => ?_) | refine ZC ?_)
  refine rt_step rfl rfl rfl (st_nextH rfl (List.Mem.head _) hbl (fun hall => ?_) (fun p hp hnp => ?_))
  · repeat (first | refine Z0 ?_ | (refine ZR ?_; first | refine x1 ?_ | refine x2 ?_ | refine x8 ?_ | refine Z1 ?_ | refine Z2 ?_ | refine x3 fun _ => ?_ | refine x4 fun _ => ?_ | refine x5 fun _ => ?_ | refine Z3 fun _ => ?_ | refine Z4 fun _ => ?_) | refine ZC ?_)
    have hperm : vs.Perm ms := by
      rw [List.perm_ext_iff_of_nodup hnd hmsd]
      refine fun q => ⟨hsub q, fun hq => ?_⟩
      have hin : q.2.2 ∈ vs.map (·.2.2) := by
        by_cases g : q ∈ leftM pr vs ms
        · exact hall q g
        · refine Classical.byContradiction fun g2 => g (List.mem_filter.2 ⟨hq, ?_⟩)
          have : (vs.map (·.2.2)).contains q.2.2 = false := by simpa using g2
          rw [this]; rfl
      obtain ⟨r, hr, e⟩ := List.mem_map.1 hin
      rw [← hb.inj (hsub r hr) hq e]; exact hr
    exact re_0 rfl (List.sublist_cons_self _ _) (fun w => hQ w vs va Ga hperm oa)
  have hp0 : p ∈ ms := (List.mem_filter.1 hp).1
  have hnd' : (vs ++ [p]).Nodup := List.nodup_append.2 ⟨hnd, by simp, fun a ha b hb e => by
    rw [List.mem_singleton.1 hb] at e
    exact hnp (by rw [← e]; exact List.mem_map_of_mem ha)⟩
  have hsub2 : ∀ q ∈ vs ++ [p], q ∈ ms := fun q hq => by
    rcases List.mem_append.1 hq with h | h
    · exact hsub q h
    · rw [List.mem_singleton.1 h]; exact hp0
  have hvl2 := nd_len hnd' hsub2
  have hvl3 : (vs ++ [p]).length = vs.length + 1 := by simp
  repeat (first | refine Z0 ?_ | (refine ZR ?_; first | refine x1 ?_ | refine x2 ?_ | refine x8 ?_ | refine Z1 ?_ | refine Z2 ?_ | refine x3 fun _ => ?_ | refine x4 fun _ => ?_ | refine x5 fun _ => ?_ | refine Z3 fun _ => ?_ | refine Z4 fun _ => ?_) | refine ZC ?_)
  refine rt_r rfl rfl rfl (rd_entryH rfl (List.Mem.head _) (List.Mem.tail _ (List.Mem.head _)) hbl hp) ?_
  have hdel := fun {Q' : Value → Hp → Prop} a1 a2 a3 a4 => del61_ct (B0 := B0) (old := old) (n := n) (Q := Q') (a1 := a1) (a2 := a2) (a3 := a3) (a4 := a4) (t3 := t3) (t5 := t5) hM hHm p.1 p.2.1 (hv p hp0) oa (by omega)
  unfold ekK evN enK en37 at *
  repeat (first | refine Z0 ?_ | (refine ZR ?_; first | refine x1 ?_ | refine x2 ?_ | refine x8 ?_ | refine Z1 ?_ | refine Z2 ?_ | refine x3 fun _ => ?_ | refine x4 fun _ => ?_ | refine x5 fun _ => ?_ | refine Z3 fun _ => ?_ | refine Z4 fun _ => ?_) | refine ZC ?_)
  refine rt_step rfl rfl rfl (st_call rfl rfl rfl rfl (hdel _ _ _ _ (fun hpr => ?_) (fun hpr v' G' o' => ?_)))
  · repeat (first | refine Z0 ?_ | (refine ZR ?_; first | refine x1 ?_ | refine x2 ?_ | refine x8 ?_ | refine Z1 ?_ | refine Z2 ?_ | refine x3 fun _ => ?_ | refine x4 fun _ => ?_ | refine x5 fun _ => ?_ | refine Z3 fun _ => ?_ | refine Z4 fun _ => ?_) | refine ZC ?_)
    refine ⟨(vs ++ [p], va, Ga), ⟨hnd', hsub2, ?_⟩, ?_, by repeat (first | exact SubL.nil | refine SubL.cons rfl ?_), ?_⟩
    · dsimp only; rw [goneM_no hpr]; exact oa
    · dsimp only; omega
    · dsimp only; rw [leftM_no hb hp0 hpr, List.map_append]; exact List.Sublist.cons _ (List.Sublist.cons _ (List.Sublist.refl _))
  · repeat (first | refine Z0 ?_ | (refine ZR ?_; first | refine x1 ?_ | refine x2 ?_ | refine x8 ?_ | refine Z1 ?_ | refine Z2 ?_ | refine x3 fun _ => ?_ | refine x4 fun _ => ?_ | refine x5 fun _ => ?_ | refine Z3 fun _ => ?_ | refine Z4 fun _ => ?_) | refine ZC ?_)
    refine rt_step0 rfl rfl (st_delete rfl rfl (delE_K keyMapK (leftM pr vs ms) p.1) sw3 ?_)
    repeat (first | refine Z0 ?_ | (refine ZR ?_; first | refine x1 ?_ | refine x2 ?_ | refine x8 ?_ | refine Z1 ?_ | refine Z2 ?_ | refine x3 fun _ => ?_ | refine x4 fun _ => ?_ | refine x5 fun _ => ?_ | refine Z3 fun _ => ?_ | refine Z4 fun _ => ?_) | refine ZC ?_)
    refine ⟨(vs ++ [p], v', G'), ⟨hnd', hsub2, ?_⟩, ?_, by repeat (first | exact SubL.nil | refine SubL.cons rfl ?_), ?_⟩
    · dsimp only; rw [goneM_yes hpr]; exact o'
    · dsimp only; omega
    · dsimp only; rw [leftM_yes hb hu hp0 hpr, List.map_append]; exact List.Sublist.cons _ (List.Sublist.cons _ (List.Sublist.refl _))
end
end Go.Proofs.Ytojnbjandkbkmaa.Abs

/- Contracts of the program's remove, Age, Drop. -/
namespace Go.Proofs.Ytojnbjandkbkmaa.Abs
open Go
set_option linter.unusedVariables false
theorem pmR {p o e t u : Nat × AObj} {G H : Hp} : (p :: o :: e :: t :: u :: (G ++ H)).Perm (e :: t :: u :: (G ++ p :: o :: H)) := by
  have h1 : (G ++ p :: o :: H).Perm (p :: o :: (G ++ H)) := List.perm_middle.trans (List.perm_middle.cons p)
  have h2 := ((h1.cons u).cons t).cons e
  refine List.Perm.symm (h2.trans ?_)
  exact pb.trans (List.Perm.cons p pb)
theorem pmS {p o e t u : Nat × AObj} {G H : Hp} : (G ++ (p :: o :: e :: t :: u :: H)).Perm (p :: o :: e :: t :: u :: (G ++ H)) :=
  List.perm_middle.trans ((List.perm_middle.trans ((List.perm_middle.trans ((List.perm_middle.trans (List.perm_middle.cons t)).cons e)).cons o)).cons p)
section
variable {B0 : Nat} {old : Nat → Option (List Value)} {n : Nat} {H Hs Hm : Hp} {Q : Value → Hp → Prop} {p ob eb co c : Nat} {age : Int} {os : List ((Int × Int) × Int × Nat)} {ms : List (Kk × S37 × Nat)} {L : List S37} {mf : Value} {pr : S37 → Bool}
set_option maxRecDepth 10000
set_option maxHeartbeats 8000000
theorem rmv44_ct (hI : TabI ms c os L) (hL : L.length ≤ 1500) (hM : MatchT (cx B0 old) Hm mf pr) (hHm : ∀ b ∈ Hm, b ∈ (p, AObj.row [.map (some ob), .int .i64 age, .map (some eb)] 3 false) :: H)
    (hQ : ∀ v G ms' os', TabI ms' c os' (L.filter fun x => !pr x) → Own en37 6 (L.filter pr) v G → Q v (G ++ ((p, .row [.map (some ob), .int .i64 age, .map (some eb)] 3 false) :: (ob, .map (mkH ekP evM os') co) :: (eb, .map (mkH ekK evN ms') c) :: H))) :
    CallT (cx B0 old) (acall (cx B0 old) ansP (n + L.length + 16)) 44 [.pointer (some ⟨p, 0, none⟩), mf] ((p, .row [.map (some ob), .int .i64 age, .map (some eb)] 3 false) :: (ob, .map (mkH ekP evM os) co) :: (eb, .map (mkH ekK evN ms) c) :: H) Q := by
  refine call_in2 29 rfl Try.func44 rfl rfl ?_
  have hlen := hI.len
  have hmv : ∃ g cap, mf = .func (.func g) #[] cap := let ⟨g, cap, h, _⟩ := hM; ⟨g, cap, h⟩
  obtain ⟨g, cap, rfl⟩ := hmv
  repeat (first | refine Z0 ?_ | (refine ZR ?_; first | refine x1 ?_ | refine x2 ?_ | refine x8 ?_ | refine Z1 ?_ | refine Z2 ?_ | refine x3 fun _ => ?_ | refine x4 fun _ => ?_ | refine x5 fun _ => ?_ | refine Z3 fun _ => ?_ | refine Z4 fun _ => ?_) | refine ZC ?_)
  rename_i t3 t5
  have hpp : (((eb, AObj.map (mkH ekK evN ms) c) :: (t3, AObj.row [Value.func (.func g) #[] cap] 1 false) :: (t5, AObj.row [.slice none 0 0] 1 false) :: ([] ++ ((p, AObj.row [.map (some ob), .int .i64 age, .map (some eb)] 3 false) :: (ob, AObj.map (mkH ekP evM os) co) :: H)) : Hp)).Perm
      ((t5, AObj.row [.slice none 0 0] 1 false) :: (t3, AObj.row [Value.func (.func g) #[] cap] 1 false) :: (p, AObj.row [.map (some ob), .int .i64 age, .map (some eb)] 3 false) :: (ob, AObj.map (mkH ekP evM os) co) :: (eb, AObj.map (mkH ekK evN ms) c) :: H) := by
    have h1 := pmR (p := (p, AObj.row [.map (some ob), .int .i64 age, .map (some eb)] 3 false)) (o := (ob, AObj.map (mkH ekP evM os) co)) (e := (eb, AObj.map (mkH ekK evN ms) c)) (t := (t3, AObj.row [Value.func (.func g) #[] cap] 1 false)) (u := (t5, AObj.row [.slice none 0 0] 1 false)) (G := []) (H := H)
    refine h1.symm.trans ?_
    have h2 : ∀ (a b c d e : Nat × AObj), (a :: b :: c :: d :: e :: H).Perm (e :: d :: a :: b :: c :: H) := fun a b c d e => by
      refine List.Perm.trans ((pb (a := a) (b := b) (c := c) (d := d))) ?_
      exact (List.Perm.cons d (pb (a := a) (b := b) (c := c) (d := e))).trans (List.Perm.swap _ _ _)
    exact h2 _ _ _ _ _
  refine rt_step rfl rfl rfl (st_call rfl rfl rfl rfl (CallT.perm (CallT.fuel (n := n + L.length + 12 + 3) (delF60_ct hM (fun b hb => ?_) hI.born hI.uq (fun q hq => hI.val _ (hI.mem hq).1) (by omega) Own.nil fun w vs v G hp ho => ?_) rfl) hpp))
  · rcases List.mem_cons.1 (hHm b hb) with h | h
    · rw [h]; exact List.Mem.head _
    · exact List.Mem.tail _ (List.Mem.tail _ h)
  obtain ⟨ad, c1, e1, ha⟩ := ho.arrW (C := cx B0 old) en37_len
  subst e1
  refine RunT.perm ?_ pmR
  -- the entries that are gone
  have hgm : ∀ x, x ∈ goneM pr vs ↔ x ∈ L ∧ pr x = true := fun x => by
    unfold goneM
    rw [List.mem_map]
    constructor
    · rintro ⟨q, hq, rfl⟩
      obtain ⟨h1, h2⟩ := List.mem_filter.1 hq
      exact ⟨(hI.mem (hp.mem_iff.1 h1)).1, h2⟩
    · rintro ⟨h1, h2⟩
      obtain ⟨q, hq, e⟩ := List.mem_map.1 (hI.perm.mem_iff.2 h1)
      exact ⟨q, List.mem_filter.2 ⟨hp.mem_iff.2 hq, by rw [e]; exact h2⟩, e⟩
  have hgp : (goneM pr vs).Perm (L.filter pr) := by
    have h1 : (goneM pr vs).Perm ((vs.map (·.2.1)).filter pr) := by
      unfold goneM
      rw [List.filter_map]
      exact List.Perm.refl _
    exact h1.trans (((hp.map _).trans hI.perm).filter pr)
  have hleft : leftM pr vs ms = ms.filter fun q => !pr q.2.1 := by
    refine List.filter_congr fun q hq => ?_
    have : (vs.map (·.2.2)).contains q.2.2 = true := by
      rw [List.contains_eq_mem]
      exact decide_eq_true (List.mem_map_of_mem (hp.mem_iff.2 hq))
    rw [this, Bool.true_and]
  have hglen : (goneM pr vs).length ≤ L.length := by rw [hgp.length_eq]; exact List.length_filter_le _ _
  generalize hgs : goneM pr vs = gs at *
  repeat (first | refine Z0 ?_ | (refine ZR ?_; first | refine x1 ?_ | refine x2 ?_ | refine x8 ?_ | refine Z1 ?_ | refine Z2 ?_ | refine x3 fun _ => ?_ | refine x4 fun _ => ?_ | refine x5 fun _ => ?_ | refine Z3 fun _ => ?_ | refine Z4 fun _ => ?_) | refine ZC ?_)
  refine loop_ind (ι := Nat × List ((Int × Int) × Int × Nat)) (0, os) (fun i => gs.length - i.1) (fun i => i.1 ≤ gs.length ∧ Uq i.2 ∧ OwnX i.2 L fun x => x ∈ gs.take i.1)
    (fun i => [(16, .int .i64 (i.1 : Int)), (15, .int .i64 (gs.length : Int)), (14, .slice ad gs.length c1), (5, .pointer (some ⟨t5, 0, none⟩)), (0, .pointer (some ⟨p, 0, none⟩))])
    (fun i => (p, .row [.map (some ob), .int .i64 age, .map (some eb)] 3 false) :: (ob, .map (mkH ekP evM i.2) co) :: (eb, .map (mkH ekK evN (leftM pr vs ms)) c) :: (t3, .row [Value.func (.func g) #[] cap] 1 false) :: (t5, .row [.slice ad gs.length c1] 1 false) :: (G ++ H))
    ⟨Nat.zero_le _, hI.uo, by
      intro q m
      rw [hI.ownX0 q m]
      simp⟩ (by repeat (first | exact SubL.nil | refine SubL.cons rfl ?_)) (List.Sublist.refl _) ?_
  rintro ⟨i, os1⟩ ⟨hi, hu1, ho1⟩
  dsimp only at hi hu1 ho1 ⊢
  repeat (first | refine Z0 ?_ | (refine ZR ?_; first | refine x1 ?_ | refine x2 ?_ | refine x8 ?_ | refine Z1 ?_ | refine Z2 ?_ | refine x3 fun _ => ?_ | refine x4 fun _ => ?_ | refine x5 fun _ => ?_ | refine Z3 fun _ => ?_ | refine Z4 fun _ => ?_) | refine ZC ?_)
  refine ct_condT te_d rfl (fun hlt => ?_) (fun hlt => ?_)
  rotate_left
  · obtain rfl : i = gs.length := by omega
    rw [List.take_length] at ho1
    have hT := hI.cut (out := pr) (ms2 := leftM pr vs ms) hleft hu1 (fun q m => by
      rw [ho1 q m]
      constructor
      · rintro ⟨x, h1, h2, h3⟩; exact ⟨x, h1, fun g => h2 ((hgm x).2 ⟨h1, g⟩), h3⟩
      · rintro ⟨x, h1, h2, h3⟩; exact ⟨x, h1, fun g => h2 ((hgm x).1 g).2, h3⟩)
    repeat (first | refine Z0 ?_ | (refine ZR ?_; first | refine x1 ?_ | refine x2 ?_ | refine x8 ?_ | refine Z1 ?_ | refine Z2 ?_ | refine x3 fun _ => ?_ | refine x4 fun _ => ?_ | refine x5 fun _ => ?_ | refine Z3 fun _ => ?_ | refine Z4 fun _ => ?_) | refine ZC ?_)
    refine rt_step rfl rfl rfl (st_call rfl rfl rfl rfl (CallT.perm (CallT.fuel (sortFN_ct (n := n + (L.length - gs.length) + 2) nearCmp ho (fun x hx => okE.k (hI.val x ((hgm x).1 hx).1).1) (by omega) fun w gs2 G2 o2 p2 s2 => ?_) (by omega)) pmS))
    have e2 : gs2 = L.filter pr := srt_unique (p2.trans hgp) (fun x hx y hy e => hI.srt.inj (List.mem_filter.1 ((p2.trans hgp).mem_iff.1 hx)).1 (List.mem_filter.1 ((p2.trans hgp).mem_iff.1 hy)).1 e) s2 ((hI.srt.sub List.filter_sublist).imp fun h => by omega)
    subst e2
    repeat (first | refine Z0 ?_ | (refine ZR ?_; first | refine x1 ?_ | refine x2 ?_ | refine x8 ?_ | refine Z1 ?_ | refine Z2 ?_ | refine x3 fun _ => ?_ | refine x4 fun _ => ?_ | refine x5 fun _ => ?_ | refine Z3 fun _ => ?_ | refine Z4 fun _ => ?_) | refine ZC ?_)
    exact re_1 rfl rfl (by exact drop_auto) (hQ _ G2 _ _ hT o2)
  have hlt' : i < gs.length := by omega
  have hx := List.getElem?_eq_getElem hlt'
  have hxm := List.getElem_mem hlt'
  have htk : gs.take (i + 1) = gs.take i ++ [gs[i]] := by rw [List.take_add_one, hx]; rfl
  generalize gs[i] = x at *
  obtain ⟨b1, o1, e1, hL0⟩ := ((ha [] H).arr en37_len).ldW 37 (i := i) (a := x) hx rfl (sz rfl)
  cases e1
  have hrel := fun {H' : Hp} {Q' : Value → Hp → Prop} {ms'} => rel35_ct (B0 := B0) (old := old) (n := n + L.length + 14) (H := H') (Q := Q') (p := p) (ob := ob) (eb := eb) (co := co) (c := c) (age := age) (os := os1) (ms := ms') x
  unfold en37 at hL0 hrel
  repeat (first | refine Z0 ?_ | (refine ZR ?_; first | refine x1 ?_ | refine x2 ?_ | refine x8 ?_ | refine Z1 ?_ | refine Z2 ?_ | refine x3 fun _ => ?_ | refine x4 fun _ => ?_ | refine x5 fun _ => ?_ | refine Z3 fun _ => ?_ | refine Z4 fun _ => ?_) | refine ZC ?_)
  (first | refine CodeT.perm ?_ pb | refine RunT.perm ?_ pb | refine PlanT.perm ?_ pb)
  repeat (first | refine Z0 ?_ | (refine ZR ?_; first | refine x1 ?_ | refine x2 ?_ | refine x8 ?_ | refine Z1 ?_ | refine Z2 ?_ | refine x3 fun _ => ?_ | refine x4 fun _ => ?_ | refine x5 fun _ => ?_ | refine Z3 fun _ => ?_ | refine Z4 fun _ => ?_) | refine ZC ?_)
  refine ct_draw (masks := [0, 1, 3, 0, 15]) (plan := [0, 1, 2, 3, 4]) (E := []) (by kernel_rfl) (by kernel_rfl) (by kernel_rfl) (by kernel_rfl) ?_
  repeat (first | refine Y0 ?_ | (refine YP ?_; first | refine y1 ?_ | refine y2 ?_ | refine Y1 ?_ | refine Y2 ?_))
  refine pl_S rfl rfl rfl rfl rfl rfl (st_call rfl rfl rfl rfl (hrel fun w => ⟨by exact rec_auto, ?_⟩))
  repeat (first | refine Y0 ?_ | (refine YP ?_; first | refine y1 ?_ | refine y2 ?_ | refine Y1 ?_ | refine Y2 ?_))
  repeat (first | refine Z0 ?_ | (refine ZR ?_; first | refine x1 ?_ | refine x2 ?_ | refine x8 ?_ | refine Z1 ?_ | refine Z2 ?_ | refine x3 fun _ => ?_ | refine x4 fun _ => ?_ | refine x5 fun _ => ?_ | refine Z3 fun _ => ?_ | refine Z4 fun _ => ?_) | refine ZC ?_)
  exact ⟨(i + 1, if x.a4 = true then delH os1 (x.a0, x.a3) else os1), ⟨by dsimp only; omega, uq_rel x hu1, fun q m => by
    dsimp only
    rw [hI.ownX1 ho1 hu1 ((hgm x).1 hxm).1 q m, htk]
    simp only [List.mem_append, List.mem_singleton]⟩, by dsimp only; omega, by repeat (first | exact SubL.nil | refine SubL.cons rfl ?_), by exact drop_auto⟩
end
end Go.Proofs.Ytojnbjandkbkmaa.Abs

/- Contracts of the program's Age and Drop. -/
namespace Go.Proofs.Ytojnbjandkbkmaa.Abs
open Go
set_option linter.unusedVariables false
def ageP (now age : Int) (x : S37) : Bool := decide (now - x.a5 ≥ age)
def segP (seg : Int) (x : S37) : Bool := x.a1 == seg
theorem pb2 {p o e x y : Nat × AObj} {H : Hp} : (p :: o :: e :: x :: y :: H).Perm (x :: y :: p :: o :: e :: H) := pb.trans (List.Perm.cons x pb)
theorem okE.time {x : S37} (h : okE x) : 0 ≤ x.a5 ∧ x.a5 ≤ 1099511627776 := by
  have h := h.2
  unfold chkN at h
  split at h
  · cases h
  · omega
section
variable {B0 : Nat} {old : Nat → Option (List Value)} {n : Nat} {H Hs Hm : Hp} {Q : Value → Hp → Prop} {p ob eb co c : Nat} {age : Int} {os : List ((Int × Int) × Int × Nat)} {ms : List (Kk × S37 × Nat)} {L : List S37} {mf : Value} {pr : S37 → Bool}
set_option maxRecDepth 10000
set_option maxHeartbeats 8000000
theorem ageM (b2 b3 : Nat) (now : Int) (h0 : 0 ≤ now ∧ now ≤ 1099511627776) : MatchT (cx B0 old) [(b3, .row [.int .i64 now] 1 false), (b2, .row [.pointer (some ⟨p, 0, none⟩)] 1 false), (p, .row [.map (some ob), .int .i64 age, .map (some eb)] 3 false)]
    (.func (.func 45) #[] #[.pointer (some ⟨b3, 0, none⟩), .pointer (some ⟨b2, 0, none⟩)]) (ageP now age) := by
  refine ⟨45, #[.pointer (some ⟨b3, 0, none⟩), .pointer (some ⟨b2, 0, none⟩)], rfl, rfl, fun n x H Q hx hm h => ?_⟩
  have m3 := hm _ (List.Mem.head _)
  have m2 := hm _ (List.Mem.tail _ (List.Mem.head _))
  have m1 := hm _ (List.Mem.tail _ (List.Mem.tail _ (List.Mem.head _)))
  have ht := hx.time
  have hL0 : ∀ H', H.Sublist H' → LdT (cx B0 old) 3 H' b3 0 (.int .i64 now) := fun H' hs => ld1 (.own _ _ (hs.subset m3)) rfl (sz rfl) rfl
  have hL1 : ∀ H', H.Sublist H' → LdT (cx B0 old) 24 H' b2 0 (.pointer (some ⟨p, 0, none⟩)) := fun H' hs => ld1 (.own _ _ (hs.subset m2)) rfl (sz rfl) rfl
  have hL2 : ∀ H', H.Sublist H' → LdT (cx B0 old) 3 H' p (0 + 1) (.int .i64 age) := fun H' hs => ld1 (.own _ _ (hs.subset m1)) rfl (sz rfl) rfl
  unfold ageP at h
  show CallT _ _ 45 [.agg ⟨en37 x⟩, .pointer (some ⟨b3, 0, none⟩), .pointer (some ⟨b2, 0, none⟩)] H Q
  refine call_in3 14 rfl Try.func45 rfl rfl ?_
  unfold en37
  repeat (first | refine Z0 ?_ | (refine ZR ?_; first | refine x1 ?_ | refine x2 ?_ | refine x8 ?_ | refine Z1 ?_ | refine Z2 ?_ | refine x3 fun _ => ?_ | refine x4 fun _ => ?_ | refine x5 fun _ => ?_ | refine Z3 fun _ => ?_ | refine Z4 fun _ => ?_) | refine ZC ?_)
  refine ct_draw (masks := [0, 0, 2, 7, 0, 16, 48, 112, 255, 511]) (plan := [0, 1, 2, 3, 4, 5, 6, 7, 8, 9]) (E := []) (by kernel_rfl) (by kernel_rfl) (by kernel_rfl) (by kernel_rfl) ?_
  repeat (first | refine Y0 ?_ | (refine YP ?_; first | refine y1 ?_ | refine y2 ?_ | refine Y1 ?_ | refine Y2 ?_))
  repeat (first | refine Z0 ?_ | (refine ZR ?_; first | refine x1 ?_ | refine x2 ?_ | refine x8 ?_ | refine Z1 ?_ | refine Z2 ?_ | refine x3 fun _ => ?_ | refine x4 fun _ => ?_ | refine x5 fun _ => ?_ | refine Z3 fun _ => ?_ | refine Z4 fun _ => ?_) | refine ZC ?_)
  exact re_1 rfl rfl (by exact drop_auto) h
theorem segM (b3 : Nat) (seg : Int) : MatchT (cx B0 old) [(b3, .row [.int .i64 seg] 1 false)] (.func (.func 46) #[] #[.pointer (some ⟨b3, 0, none⟩)]) (segP seg) := by
  refine ⟨46, #[.pointer (some ⟨b3, 0, none⟩)], rfl, rfl, fun n x H Q hx hm h => ?_⟩
  have m3 := hm _ (List.Mem.head _)
  have hL0 : ∀ H', H.Sublist H' → LdT (cx B0 old) 3 H' b3 0 (.int .i64 seg) := fun H' hs => ld1 (.own _ _ (hs.subset m3)) rfl (sz rfl) rfl
  unfold segP at h
  show CallT _ _ 46 [.agg ⟨en37 x⟩, .pointer (some ⟨b3, 0, none⟩)] H Q
  refine call_in2 8 rfl Try.func46 rfl rfl ?_
  unfold en37
  repeat (first | refine Z0 ?_ | (refine ZR ?_; first | refine x1 ?_ | refine x2 ?_ | refine x8 ?_ | refine Z1 ?_ | refine Z2 ?_ | refine x3 fun _ => ?_ | refine x4 fun _ => ?_ | refine x5 fun _ => ?_ | refine Z3 fun _ => ?_ | refine Z4 fun _ => ?_) | refine ZC ?_)
  exact re_1 rfl rfl (by exact drop_auto) h
theorem age24_ct (hI : TabI ms c os L) (hL : L.length ≤ 1500) (now : Int) (hbad : now < 0 ∨ now > 1099511627776 → Q (.tuple #[.slice none 0 0, .int .i64 2]) ((p, .row [.map (some ob), .int .i64 age, .map (some eb)] 3 false) :: (ob, .map (mkH ekP evM os) co) :: (eb, .map (mkH ekK evN ms) c) :: H))
    (hQ : 0 ≤ now ∧ now ≤ 1099511627776 → ∀ v G ms' os', TabI ms' c os' (L.filter fun x => !ageP now age x) → Own en37 6 (L.filter (ageP now age)) v G → Q (.tuple #[v, .int .i64 0]) (G ++ ((p, .row [.map (some ob), .int .i64 age, .map (some eb)] 3 false) :: (ob, .map (mkH ekP evM os') co) :: (eb, .map (mkH ekK evN ms') c) :: H))) :
    CallT (cx B0 old) (acall (cx B0 old) ansP (n + L.length + 17)) 24 [.pointer (some ⟨p, 0, none⟩), .int .i64 now] ((p, .row [.map (some ob), .int .i64 age, .map (some eb)] 3 false) :: (ob, .map (mkH ekP evM os) co) :: (eb, .map (mkH ekK evN ms) c) :: H) Q := by
  refine call_in2 17 rfl Try.func24 rfl rfl ?_
  repeat (first | refine Z0 ?_ | (refine ZR ?_; first | refine x1 ?_ | refine x2 ?_ | refine x8 ?_ | refine Z1 ?_ | refine Z2 ?_ | refine x3 fun _ => ?_ | refine x4 fun _ => ?_ | refine x5 fun _ => ?_ | refine Z3 fun _ => ?_ | refine Z4 fun _ => ?_) | refine ZC ?_)
  refine RunT.perm ?_ pb2
  rename_i b2 b3
  repeat (first | refine Z0 ?_ | (refine ZR ?_; first | refine x1 ?_ | refine x2 ?_ | refine x8 ?_ | refine Z1 ?_ | refine Z2 ?_ | refine x3 fun _ => ?_ | refine x4 fun _ => ?_ | refine x5 fun _ => ?_ | refine Z3 fun _ => ?_ | refine Z4 fun _ => ?_) | refine ZC ?_)
  refine rt_step rfl rfl rfl (st_call rfl rfl rfl rfl (inv33_ct ?_))
  repeat (first | refine Z0 ?_ | (refine ZR ?_; first | refine x1 ?_ | refine x2 ?_ | refine x8 ?_ | refine Z1 ?_ | refine Z2 ?_ | refine x3 fun _ => ?_ | refine x4 fun _ => ?_ | refine x5 fun _ => ?_ | refine Z3 fun _ => ?_ | refine Z4 fun _ => ?_) | refine ZC ?_)
  refine isRun ?_
  refine z1 (fun h1 => ?_) (fun h1 => ?_)
  · repeat (first | refine Z0 ?_ | (refine ZR ?_; first | refine x1 ?_ | refine x2 ?_ | refine x8 ?_ | refine Z1 ?_ | refine Z2 ?_ | refine x3 fun _ => ?_ | refine x4 fun _ => ?_ | refine x5 fun _ => ?_ | refine Z3 fun _ => ?_ | refine Z4 fun _ => ?_) | refine ZC ?_)
    exact re_2 rfl rfl rfl (by exact drop_auto) (hbad (.inl h1))
  repeat (first | refine Z0 ?_ | (refine ZR ?_; first | refine x1 ?_ | refine x2 ?_ | refine x8 ?_ | refine Z1 ?_ | refine Z2 ?_ | refine x3 fun _ => ?_ | refine x4 fun _ => ?_ | refine x5 fun _ => ?_ | refine Z3 fun _ => ?_ | refine Z4 fun _ => ?_) | refine ZC ?_)
  refine ct_condT te_d rfl (fun h2 => ?_) (fun h2 => ?_)
  · repeat (first | refine Z0 ?_ | (refine ZR ?_; first | refine x1 ?_ | refine x2 ?_ | refine x8 ?_ | refine Z1 ?_ | refine Z2 ?_ | refine x3 fun _ => ?_ | refine x4 fun _ => ?_ | refine x5 fun _ => ?_ | refine Z3 fun _ => ?_ | refine Z4 fun _ => ?_) | refine ZC ?_)
    exact re_2 rfl rfl rfl (by exact drop_auto) (hbad (.inr h2))
  repeat (first | refine Z0 ?_ | (refine ZR ?_; first | refine x1 ?_ | refine x2 ?_ | refine x8 ?_ | refine Z1 ?_ | refine Z2 ?_ | refine x3 fun _ => ?_ | refine x4 fun _ => ?_ | refine x5 fun _ => ?_ | refine Z3 fun _ => ?_ | refine Z4 fun _ => ?_) | refine ZC ?_)
  refine rt_step rfl rfl rfl (st_call rfl rfl rfl rfl (CallT.fuel (rmv44_ct (n := n) hI hL (ageM (age := age) (ob := ob) (eb := eb) (p := p) b2 b3 now ⟨by omega, by omega⟩) (fun b hb => ?_) fun v G ms' os' hT ho => ?_) rfl))
  · rcases List.mem_cons.1 hb with rfl | hb
    · exact List.Mem.tail _ (List.Mem.head _)
    rcases List.mem_cons.1 hb with rfl | hb
    · exact List.Mem.tail _ (List.Mem.tail _ (List.Mem.head _))
    · rw [List.mem_singleton.1 hb]; exact List.Mem.head _
  repeat (first | refine Z0 ?_ | (refine ZR ?_; first | refine x1 ?_ | refine x2 ?_ | refine x8 ?_ | refine Z1 ?_ | refine Z2 ?_ | refine x3 fun _ => ?_ | refine x4 fun _ => ?_ | refine x5 fun _ => ?_ | refine Z3 fun _ => ?_ | refine Z4 fun _ => ?_) | refine ZC ?_)
  exact re_2 rfl rfl rfl (by exact drop_auto) (hQ ⟨by omega, by omega⟩ v G ms' os' hT ho)
theorem drop25_ct (hI : TabI ms c os L) (hL : L.length ≤ 1500) (seg : Int)
    (hQ : ∀ v G ms' os', TabI ms' c os' (L.filter fun x => !segP seg x) → Own en37 6 (L.filter (segP seg)) v G → Q (.tuple #[v, .int .i64 0]) (G ++ ((p, .row [.map (some ob), .int .i64 age, .map (some eb)] 3 false) :: (ob, .map (mkH ekP evM os') co) :: (eb, .map (mkH ekK evN ms') c) :: H))) :
    CallT (cx B0 old) (acall (cx B0 old) ansP (n + L.length + 17)) 25 [.pointer (some ⟨p, 0, none⟩), .int .i64 seg] ((p, .row [.map (some ob), .int .i64 age, .map (some eb)] 3 false) :: (ob, .map (mkH ekP evM os) co) :: (eb, .map (mkH ekK evN ms) c) :: H) Q := by
  refine call_in2 11 rfl Try.func25 rfl rfl ?_
  repeat (first | refine Z0 ?_ | (refine ZR ?_; first | refine x1 ?_ | refine x2 ?_ | refine x8 ?_ | refine Z1 ?_ | refine Z2 ?_ | refine x3 fun _ => ?_ | refine x4 fun _ => ?_ | refine x5 fun _ => ?_ | refine Z3 fun _ => ?_ | refine Z4 fun _ => ?_) | refine ZC ?_)
  (first | refine CodeT.perm ?_ pb | refine RunT.perm ?_ pb | refine PlanT.perm ?_ pb)
  rename_i b3
  repeat (first | refine Z0 ?_ | (refine ZR ?_; first | refine x1 ?_ | refine x2 ?_ | refine x8 ?_ | refine Z1 ?_ | refine Z2 ?_ | refine x3 fun _ => ?_ | refine x4 fun _ => ?_ | refine x5 fun _ => ?_ | refine Z3 fun _ => ?_ | refine Z4 fun _ => ?_) | refine ZC ?_)
  refine rt_step rfl rfl rfl (st_call rfl rfl rfl rfl (inv33_ct ?_))
  repeat (first | refine Z0 ?_ | (refine ZR ?_; first | refine x1 ?_ | refine x2 ?_ | refine x8 ?_ | refine Z1 ?_ | refine Z2 ?_ | refine x3 fun _ => ?_ | refine x4 fun _ => ?_ | refine x5 fun _ => ?_ | refine Z3 fun _ => ?_ | refine Z4 fun _ => ?_) | refine ZC ?_)
  refine rt_step rfl rfl rfl (st_call rfl rfl rfl rfl (CallT.fuel (rmv44_ct (n := n) hI hL (segM b3 seg) (fun b hb => ?_) fun v G ms' os' hT ho => ?_) rfl))
  · rw [List.mem_singleton.1 hb]; exact List.Mem.tail _ (List.Mem.head _)
  repeat (first | refine Z0 ?_ | (refine ZR ?_; first | refine x1 ?_ | refine x2 ?_ | refine x8 ?_ | refine Z1 ?_ | refine Z2 ?_ | refine x3 fun _ => ?_ | refine x4 fun _ => ?_ | refine x5 fun _ => ?_ | refine Z3 fun _ => ?_ | refine Z4 fun _ => ?_) | refine ZC ?_)
  exact re_2 rfl rfl rfl (by exact drop_auto) (hQ v G ms' os' hT ho)
end
end Go.Proofs.Ytojnbjandkbkmaa.Abs

/- Tables as one thing; the laws' helpers. -/
namespace Go.Proofs.Ytojnbjandkbkmaa.Abs
open Go
set_option linter.unusedVariables false
instance : DecidableEq S37 := fun a b => if h : a.a0 = b.a0 ∧ a.a1 = b.a1 ∧ a.a2 = b.a2 ∧ a.a3 = b.a3 ∧ a.a4 = b.a4 ∧ a.a5 = b.a5 then .isTrue (S37_ext h.1 h.2.1 h.2.2.1 h.2.2.2.1 h.2.2.2.2.1 h.2.2.2.2.2) else .isFalse fun e => h (by subst e; exact ⟨rfl, rfl, rfl, rfl, rfl, rfl⟩)
theorem leaf37 (x y : S37) : leafsEq (en37 x) (en37 y) = decide (x = y) := by
  obtain ⟨a0, a1, a2, a3, a4, a5⟩ := x
  obtain ⟨b0, b1, b2, b3, b4, b5⟩ := y
  simp only [leafsEq, leafEq, en37, S37.mk.injEq]
  by_cases h0 : a0 = b0 <;> by_cases h1 : a1 = b1 <;> by_cases h2 : a2 = b2 <;> by_cases h3 : a3 = b3 <;> by_cases h4 : a4 = b4 <;> by_cases h5 : a5 = b5 <;> simp [h0, h1, h2, h3, h4, h5]
/-- A table in memory. -/
def TbP (v : Value) (age : Int) (L : List S37) (G : Hp) : Prop := ∃ p ob eb os co ms c, v = .pointer (some ⟨p, 0, none⟩) ∧ G = ((p, .row [.map (some ob), .int .i64 age, .map (some eb)] 3 false) :: (ob, .map (mkH ekP evM os) co) :: (eb, .map (mkH ekK evN ms) c) :: []) ∧ TabI ms c os L
theorem TbP.ptr {v : Value} {age : Int} {L : List S37} {G : Hp} (h : TbP v age L G) : ∃ p, v = .pointer (some ⟨p, 0, none⟩) := let ⟨p, _, _, _, _, _, _, e, _⟩ := h; ⟨p, e⟩
theorem TbP.srt {v : Value} {age : Int} {L : List S37} {G : Hp} (h : TbP v age L G) : SrtN L ∧ ∀ x ∈ L, okE x := let ⟨_, _, _, _, _, _, _, _, _, hI⟩ := h; ⟨hI.srt, hI.val⟩
theorem TbP.key {v : Value} {age : Int} {L : List S37} {G : Hp} (h : TbP v age L G) {x y : S37} (hx : x ∈ L) (hy : y ∈ L) (h1 : x.a4 = true) (h2 : y.a4 = true) (h3 : x.a0 = y.a0) (h4 : x.a3 = y.a3) : x = y := let ⟨_, _, _, _, _, _, _, _, _, hI⟩ := h; hI.own_key hx hy h1 h2 h3 h4
section
variable {B0 : Nat} {old : Nat → Option (List Value)} {n : Nat} {H G : Hp} {Q : Value → Hp → Prop} {v : Value} {age : Int} {L A B : List S37}
set_option maxRecDepth 10000
set_option maxHeartbeats 8000000
theorem newW (a : Int) (hbad : (a < 1 ∨ a > 1073741824) → Q (.tuple #[.pointer none, .int .i64 2]) H) (hok : 1 ≤ a ∧ a ≤ 1073741824 → ∀ v G, TbP v a [] G → Q (.tuple #[v, .int .i64 0]) (G ++ H)) :
    CallT (cx B0 old) (acall (cx B0 old) ansP (n + 1)) 12 [.int .i64 a] H Q :=
  new12_ct a hbad fun h p ob eb => hok h _ _ ⟨p, ob, eb, [], 0, [], 0, rfl, rfl, TabI.new⟩
theorem learnW (hT : TbP v age L G) (e : S37) (hw : e.wf) (fz : Bool) (hL : L.length ≤ 2000) (hQ : ∀ G', TbP v age (learnN L e fz).1 G' → Q (.tuple #[.bool (learnN L e fz).2.1, .int .i64 (learnN L e fz).2.2]) (G' ++ H)) :
    CallT (cx B0 old) (acall (cx B0 old) ansP (n + 3)) 15 [v, .agg ⟨en37 e⟩, .bool fz] (G ++ H) Q := by
  obtain ⟨p, ob, eb, os, co, ms, c, rfl, rfl, hI⟩ := hT
  exact learn15_ct hI e hw fz hL fun ms' c' os' co' h => hQ _ ⟨p, ob, eb, os', co', ms', c', rfl, rfl, h⟩
theorem lookW (hT : TbP v age L G) (bd mac : Int) (h : Q (.tuple #[.agg ⟨en37 ((findN L ⟨bd, mac⟩).getD zN)⟩, .bool (findN L ⟨bd, mac⟩).isSome]) (G ++ H)) : CallT (cx B0 old) (acall (cx B0 old) ansP (n + 2)) 28 [v, .int .i64 bd, .int .u64 mac] (G ++ H) Q := by
  obtain ⟨p, ob, eb, os, co, ms, c, rfl, rfl, hI⟩ := hT
  exact look28_ct hI bd mac h
theorem findW (hT : TbP v age L G) (bd ip : Int) (h : Q (.tuple #[.agg ⟨en37 ((findIP L bd ip).getD zN)⟩, .bool (findIP L bd ip).isSome]) (G ++ H)) : CallT (cx B0 old) (acall (cx B0 old) ansP (n + 3)) 32 [v, .int .i64 bd, .int .u32 ip] (G ++ H) Q := by
  obtain ⟨p, ob, eb, os, co, ms, c, rfl, rfl, hI⟩ := hT
  exact find32_ct hI bd ip h
theorem remW (hT : TbP v age L G) (bd mac : Int) (hQ : ∀ G', TbP v age (rmN ⟨bd, mac⟩ L) G' → Q (.tuple #[.bool (findN L ⟨bd, mac⟩).isSome, .int .i64 0]) (G' ++ H)) : CallT (cx B0 old) (acall (cx B0 old) ansP (n + 2)) 26 [v, .int .i64 bd, .int .u64 mac] (G ++ H) Q := by
  obtain ⟨p, ob, eb, os, co, ms, c, rfl, rfl, hI⟩ := hT
  exact rem26_ct hI bd mac fun ms' os' h => hQ _ ⟨p, ob, eb, os', co, ms', c, rfl, rfl, h⟩
theorem allW (hT : TbP v age L G) (hL : L.length ≤ 1500) (hQ : ∀ w Ga, Own en37 6 L w Ga → Q w (Ga ++ (G ++ H))) : CallT (cx B0 old) (acall (cx B0 old) ansP (n + 1516)) 19 [v] (G ++ H) Q := by
  obtain ⟨p, ob, eb, os, co, ms, c, rfl, rfl, hI⟩ := hT
  exact CallT.fuel (all19_ct (n := n + (1500 - L.length)) hI hL fun w Ga h => hQ w Ga h) (by omega)
theorem ageW (hT : TbP v age L G) (hL : L.length ≤ 1500) (now : Int) (hbad : now < 0 ∨ now > 1099511627776 → Q (.tuple #[.slice none 0 0, .int .i64 2]) (G ++ H))
    (hQ : 0 ≤ now ∧ now ≤ 1099511627776 → ∀ w Ga G', TbP v age (L.filter fun x => !ageP now age x) G' → Own en37 6 (L.filter (ageP now age)) w Ga → Q (.tuple #[w, .int .i64 0]) (Ga ++ (G' ++ H))) :
    CallT (cx B0 old) (acall (cx B0 old) ansP (n + 1517)) 24 [v, .int .i64 now] (G ++ H) Q := by
  obtain ⟨p, ob, eb, os, co, ms, c, rfl, rfl, hI⟩ := hT
  exact CallT.fuel (age24_ct (n := n + (1500 - L.length)) hI hL now hbad fun h w Ga ms' os' hT ho => hQ h w Ga _ ⟨p, ob, eb, os', co, ms', c, rfl, rfl, hT⟩ ho) (by omega)
theorem dropW (hT : TbP v age L G) (hL : L.length ≤ 1500) (seg : Int)
    (hQ : ∀ w Ga G', TbP v age (L.filter fun x => !segP seg x) G' → Own en37 6 (L.filter (segP seg)) w Ga → Q (.tuple #[w, .int .i64 0]) (Ga ++ (G' ++ H))) :
    CallT (cx B0 old) (acall (cx B0 old) ansP (n + 1517)) 25 [v, .int .i64 seg] (G ++ H) Q := by
  obtain ⟨p, ob, eb, os, co, ms, c, rfl, rfl, hI⟩ := hT
  exact CallT.fuel (drop25_ct (n := n + (1500 - L.length)) hI hL seg fun w Ga ms' os' hT ho => hQ w Ga _ ⟨p, ob, eb, os', co, ms', c, rfl, rfl, hT⟩ ho) (by omega)
theorem at21_ct {b : Bool} (bd mac seg time ip : Int) (hb : (ip != 0) = b) (h : Q (.agg ⟨en37 ⟨bd, seg, mac, ip, b, time⟩⟩) H) : CallT (cx B0 old) (acall (cx B0 old) ansP (n + 1)) 21 [.int .i64 bd, .int .u64 mac, .int .i64 seg, .int .i64 time, .int .u32 ip] H Q := by
  refine call_in 19 rfl Try.func21 rfl rfl ?_
  subst hb
  unfold en37 at h
  repeat (first | refine Z0 ?_ | (refine ZR ?_; first | refine x1 ?_ | refine x2 ?_ | refine x8 ?_ | refine Z1 ?_ | refine Z2 ?_ | refine x3 fun _ => ?_ | refine x4 fun _ => ?_ | refine x5 fun _ => ?_ | refine Z3 fun _ => ?_ | refine Z4 fun _ => ?_) | refine ZC ?_)
  exact re_c1 rfl rfl (.own _ _ hm0) rfl (sz rfl) rfl (by exact drop_auto) h
theorem learns20_ct (hT : TbP v age L G) (e : S37) (hw : e.wf) (fz mv : Bool) (want : Int) (hL : L.length ≤ 2000) (h1 : (learnN L e fz).2.1 = mv) (h2 : (learnN L e fz).2.2 = want) (hQ : ∀ G', TbP v age (learnN L e fz).1 G' → Q (.bool true) (G' ++ H)) :
    CallT (cx B0 old) (acall (cx B0 old) ansP (n + 4)) 20 [v, .agg ⟨en37 e⟩, .bool fz, .bool mv, .int .i64 want] (G ++ H) Q := by
  refine call_in 28 rfl Try.func20 rfl rfl ?_
  have hl := fun {H' : Hp} {Q' : Value → Hp → Prop} => learnW (B0 := B0) (old := old) (n := n) (H := H') (Q := Q') hT e hw fz hL
  unfold en37 at hl ⊢
  repeat (first | refine Z0 ?_ | (refine ZR ?_; first | refine x1 ?_ | refine x2 ?_ | refine x8 ?_ | refine Z1 ?_ | refine Z2 ?_ | refine x3 fun _ => ?_ | refine x4 fun _ => ?_ | refine x5 fun _ => ?_ | refine Z3 fun _ => ?_ | refine Z4 fun _ => ?_) | refine ZC ?_)
  refine rt_step rfl rfl rfl (st_call rfl rfl rfl rfl (CallT.perm (hl fun G' hT' => ?_) (List.perm_append_comm_assoc _ [_] _)))
  rw [h1, h2]
  repeat (first | refine Z0 ?_ | (refine ZR ?_; first | refine x1 ?_ | refine x2 ?_ | refine x8 ?_ | refine Z1 ?_ | refine Z2 ?_ | refine x3 fun _ => ?_ | refine x4 fun _ => ?_ | refine x5 fun _ => ?_ | refine Z3 fun _ => ?_ | refine Z4 fun _ => ?_) | refine ZC ?_)
  rw [show (mv == mv) = true by simp]
  repeat (first | refine Z0 ?_ | (refine ZR ?_; first | refine x1 ?_ | refine x2 ?_ | refine x8 ?_ | refine Z1 ?_ | refine Z2 ?_ | refine x3 fun _ => ?_ | refine x4 fun _ => ?_ | refine x5 fun _ => ?_ | refine Z3 fun _ => ?_ | refine Z4 fun _ => ?_) | refine ZC ?_)
  rw [show (want == want) = true by simp]
  repeat (first | refine Z0 ?_ | (refine ZR ?_; first | refine x1 ?_ | refine x2 ?_ | refine x8 ?_ | refine Z1 ?_ | refine Z2 ?_ | refine x3 fun _ => ?_ | refine x4 fun _ => ?_ | refine x5 fun _ => ?_ | refine Z3 fun _ => ?_ | refine Z4 fun _ => ?_) | refine ZC ?_)
  exact re_1 rfl rfl ((List.Sublist.refl _).append (List.sublist_append_right _ _)) (hQ G' hT')
theorem has22_ct (hT : TbP v age L G) (x : S37) (h : findN L (kOf x) = some x) (hQ : Q (.bool true) (G ++ H)) : CallT (cx B0 old) (acall (cx B0 old) ansP (n + 3)) 22 [v, .agg ⟨en37 x⟩] (G ++ H) Q := by
  refine call_in2 22 rfl Try.func22 rfl rfl ?_
  have hl := fun {H' : Hp} {Q' : Value → Hp → Prop} h' => lookW (B0 := B0) (old := old) (n := n) (H := H') (Q := Q') hT x.a0 x.a2 h'
  have h : findN L ⟨x.a0, x.a2⟩ = some x := h
  rw [h] at hl
  have hs := leaf37 x x
  rw [decide_eq_true rfl] at hs
  simp only [Option.getD_some, Option.isSome_some] at hl
  unfold en37 at hl hs ⊢
  repeat (first | refine Z0 ?_ | (refine ZR ?_; first | refine x1 ?_ | refine x2 ?_ | refine x8 ?_ | refine Z1 ?_ | refine Z2 ?_ | refine x3 fun _ => ?_ | refine x4 fun _ => ?_ | refine x5 fun _ => ?_ | refine Z3 fun _ => ?_ | refine Z4 fun _ => ?_) | refine ZC ?_)
  refine rt_step rfl rfl rfl (st_call rfl rfl rfl rfl (CallT.perm (hl ?_) (List.perm_append_comm_assoc _ [_] _)))
  repeat (first | refine Z0 ?_ | (refine ZR ?_; first | refine x1 ?_ | refine x2 ?_ | refine x8 ?_ | refine Z1 ?_ | refine Z2 ?_ | refine x3 fun _ => ?_ | refine x4 fun _ => ?_ | refine x5 fun _ => ?_ | refine Z3 fun _ => ?_ | refine Z4 fun _ => ?_) | refine ZC ?_)
  rw [hs]
  repeat (first | refine Z0 ?_ | (refine ZR ?_; first | refine x1 ?_ | refine x2 ?_ | refine x8 ?_ | refine Z1 ?_ | refine Z2 ?_ | refine x3 fun _ => ?_ | refine x4 fun _ => ?_ | refine x5 fun _ => ?_ | refine Z3 fun _ => ?_ | refine Z4 fun _ => ?_) | refine ZC ?_)
  exact re_1 rfl rfl (List.Sublist.cons _ ((List.Sublist.refl _).append (List.sublist_append_right _ _))) hQ
theorem finds23_ct (hT : TbP v age L G) (x : S37) (h : findIP L x.a0 x.a3 = some x) (hQ : Q (.bool true) (G ++ H)) : CallT (cx B0 old) (acall (cx B0 old) ansP (n + 4)) 23 [v, .agg ⟨en37 x⟩] (G ++ H) Q := by
  refine call_in2 22 rfl Try.func23 rfl rfl ?_
  have hl := fun {H' : Hp} {Q' : Value → Hp → Prop} h' => findW (B0 := B0) (old := old) (n := n) (H := H') (Q := Q') hT x.a0 x.a3 h'
  rw [h] at hl
  have hs := leaf37 x x
  rw [decide_eq_true rfl] at hs
  simp only [Option.getD_some, Option.isSome_some] at hl
  unfold en37 at hl hs ⊢
  repeat (first | refine Z0 ?_ | (refine ZR ?_; first | refine x1 ?_ | refine x2 ?_ | refine x8 ?_ | refine Z1 ?_ | refine Z2 ?_ | refine x3 fun _ => ?_ | refine x4 fun _ => ?_ | refine x5 fun _ => ?_ | refine Z3 fun _ => ?_ | refine Z4 fun _ => ?_) | refine ZC ?_)
  refine rt_step rfl rfl rfl (st_call rfl rfl rfl rfl (CallT.perm (hl ?_) (List.perm_append_comm_assoc _ [_] _)))
  repeat (first | refine Z0 ?_ | (refine ZR ?_; first | refine x1 ?_ | refine x2 ?_ | refine x8 ?_ | refine Z1 ?_ | refine Z2 ?_ | refine x3 fun _ => ?_ | refine x4 fun _ => ?_ | refine x5 fun _ => ?_ | refine Z3 fun _ => ?_ | refine Z4 fun _ => ?_) | refine ZC ?_)
  rw [hs]
  repeat (first | refine Z0 ?_ | (refine ZR ?_; first | refine x1 ?_ | refine x2 ?_ | refine x8 ?_ | refine Z1 ?_ | refine Z2 ?_ | refine x3 fun _ => ?_ | refine x4 fun _ => ?_ | refine x5 fun _ => ?_ | refine Z3 fun _ => ?_ | refine Z4 fun _ => ?_) | refine ZC ?_)
  exact re_1 rfl rfl (List.Sublist.cons _ ((List.Sublist.refl _).append (List.sublist_append_right _ _))) hQ
theorem same18_ct {ad ad2 : Option Addr} {c c2 : Nat} (h1 : Arr (cx B0 old) H ad 6 en37 A) (h2 : Arr (cx B0 old) H ad2 6 en37 A) (hl : A.length ≤ 100000) (hQ : Q (.bool true) H) : CallT (cx B0 old) (acall (cx B0 old) ansP (n + 1)) 18 [.slice ad A.length c, .slice ad2 A.length c2] H Q := by
  refine call_in2 26 rfl Try.func18 rfl rfl ?_
  repeat (first | refine Z0 ?_ | (refine ZR ?_; first | refine x1 ?_ | refine x2 ?_ | refine x8 ?_ | refine Z1 ?_ | refine Z2 ?_ | refine x3 fun _ => ?_ | refine x4 fun _ => ?_ | refine x5 fun _ => ?_ | refine Z3 fun _ => ?_ | refine Z4 fun _ => ?_) | refine ZC ?_)
  refine ct_condT te_ne rfl (fun hc => absurd rfl hc) (fun _ => ?_)
  repeat (first | refine Z0 ?_ | (refine ZR ?_; first | refine x1 ?_ | refine x2 ?_ | refine x8 ?_ | refine Z1 ?_ | refine Z2 ?_ | refine x3 fun _ => ?_ | refine x4 fun _ => ?_ | refine x5 fun _ => ?_ | refine Z3 fun _ => ?_ | refine Z4 fun _ => ?_) | refine ZC ?_)
  refine loop_ind (ι := Nat) 0 (fun i => A.length - i) (fun i => i ≤ A.length) (fun i => [(5, .int .i64 (i : Int)), (0, .slice ad A.length c), (1, .slice ad2 A.length c2)]) (fun _ => H) (Nat.zero_le _) (by repeat (first | exact SubL.nil | refine SubL.cons rfl ?_)) (by exact drop_auto) ?_
  intro i hi
  repeat (first | refine Z0 ?_ | (refine ZR ?_; first | refine x1 ?_ | refine x2 ?_ | refine x8 ?_ | refine Z1 ?_ | refine Z2 ?_ | refine x3 fun _ => ?_ | refine x4 fun _ => ?_ | refine x5 fun _ => ?_ | refine Z3 fun _ => ?_ | refine Z4 fun _ => ?_) | refine ZC ?_)
  refine ct_condT te_d rfl (fun hc => ?_) (fun hc => ?_)
  · obtain ⟨a, ha⟩ : ∃ x, A[i]? = some x := ⟨_, List.getElem?_eq_getElem (by omega)⟩
    obtain ⟨b1, o1, e1, hL0⟩ := h1.ldW 37 ha rfl (sz rfl)
    obtain ⟨b2, o2, e2, hL1⟩ := h2.ldW 37 ha rfl (sz rfl)
    subst e1
    subst e2
    have hs := leaf37 a a
    rw [decide_eq_true rfl] at hs
    unfold en37 at hL0 hL1 hs
    repeat (first | refine Z0 ?_ | (refine ZR ?_; first | refine x1 ?_ | refine x2 ?_ | refine x8 ?_ | refine Z1 ?_ | refine Z2 ?_ | refine x3 fun _ => ?_ | refine x4 fun _ => ?_ | refine x5 fun _ => ?_ | refine Z3 fun _ => ?_ | refine Z4 fun _ => ?_) | refine ZC ?_)
    refine ct_draw (masks := [0, 0, 3, 7, 0, 0, 48, 112, 255]) (plan := [0, 1, 2, 3, 4, 5, 6, 7, 8]) (E := []) (by kernel_rfl) (by kernel_rfl) (by kernel_rfl) (by kernel_rfl) ?_
    repeat (first | refine Y0 ?_ | (refine YP ?_; first | refine y1 ?_ | refine y2 ?_ | refine Y1 ?_ | refine Y2 ?_))
    rw [hs]
    repeat (first | refine Y0 ?_ | (refine YP ?_; first | refine y1 ?_ | refine y2 ?_ | refine Y1 ?_ | refine Y2 ?_))
    repeat (first | refine Z0 ?_ | (refine ZR ?_; first | refine x1 ?_ | refine x2 ?_ | refine x8 ?_ | refine Z1 ?_ | refine Z2 ?_ | refine x3 fun _ => ?_ | refine x4 fun _ => ?_ | refine x5 fun _ => ?_ | refine Z3 fun _ => ?_ | refine Z4 fun _ => ?_) | refine ZC ?_)
    exact ⟨i + 1, by omega, by omega, by repeat (first | exact SubL.nil | refine SubL.cons rfl ?_), by exact drop_auto⟩
  · repeat (first | refine Z0 ?_ | (refine ZR ?_; first | refine x1 ?_ | refine x2 ?_ | refine x8 ?_ | refine Z1 ?_ | refine Z2 ?_ | refine x3 fun _ => ?_ | refine x4 fun _ => ?_ | refine x5 fun _ => ?_ | refine Z3 fun _ => ?_ | refine Z4 fun _ => ?_) | refine ZC ?_)
    exact re_1 rfl rfl (by exact drop_auto) hQ
end
end Go.Proofs.Ytojnbjandkbkmaa.Abs
