/- Tables in plain Lean: what learning makes of a sorted list of entries; maps that hold a table. -/
import Derived.Test.YtojnbjandkbkmaaQb
import Derived.Test.YtojnbjandkbkmaaQa
namespace Go.Proofs.Ytojnbjandkbkmaa.Abs
open Go
set_option linter.unusedVariables false
theorem Kk.eta {a b : Kk} (h1 : a.bd = b.bd) (h2 : a.mac = b.mac) : a = b := by cases a; cases b; simp only at h1 h2; subst h1; subst h2; rfl
instance : DecidableEq Kk := fun a b => if h : a.bd = b.bd ∧ a.mac = b.mac then .isTrue (Kk.eta h.1 h.2) else .isFalse fun e => h ⟨by rw [e], by rw [e]⟩
theorem S37_ext {a b : S37} (h0 : a.a0 = b.a0) (h1 : a.a1 = b.a1) (h2 : a.a2 = b.a2) (h3 : a.a3 = b.a3) (h4 : a.a4 = b.a4) (h5 : a.a5 = b.a5) : a = b := by
  cases a; cases b; simp only at h0 h1 h2 h3 h4 h5; subst h0; subst h1; subst h2; subst h3; subst h4; subst h5; rfl
def b40 (m : Int) : Int := IntKind.u64.wrap (BitVec.ofInt IntKind.u64.bits (m.fdiv (2 ^ (min (40 : Int).toNat IntKind.u64.bits))) &&& BitVec.ofInt IntKind.u64.bits 1).toNat
def chkN (x : S37) : Int := if x.a0 < 0 ∨ x.a0 ≥ 32 ∨ x.a1 < 0 ∨ x.a1 ≥ 64 ∨ x.a5 < 0 ∨ x.a5 > 1099511627776 then 2 else if x.a2 = 0 ∨ x.a2 > 281474976710655 ∨ b40 x.a2 = 1 ∨ ¬ (x.a4 = true ↔ x.a3 ≠ 0) then 3 else 0
def SrtN (L : List S37) : Prop := (L.map rkN).Pairwise (· < ·)
def insN (e : S37) : List S37 → List S37
  | [] => [e]
  | x :: l => if rkN x < rkN e then x :: insN e l else e :: x :: l
def rmN (k : Kk) (L : List S37) : List S37 := L.filter fun x => decide (kOf x ≠ k)
/-- An entry loses its IP address to another one. -/
def stN (e x : S37) : S37 := if e.a4 = true ∧ x.a0 = e.a0 ∧ x.a4 = true ∧ x.a3 = e.a3 then { x with a3 := 0, a4 := false } else x
def findN (L : List S37) (k : Kk) : Option S37 := L.find? fun x => decide (kOf x = k)
def mrg (old e : S37) : S37 := if old.a1 = e.a1 then { e with a5 := if e.a5 > old.a5 then e.a5 else old.a5, a3 := if e.a4 then e.a3 else old.a3, a4 := e.a4 || old.a4 } else e
def putN (L : List S37) (e : S37) : List S37 := insN e ((rmN (kOf e) L).map (stN e))
def learnN (L : List S37) (e : S37) (fz : Bool) : List S37 × Bool × Int :=
  if chkN e ≠ 0 then (L, false, chkN e) else match findN L (kOf e) with
  | some old => if old.a1 ≠ e.a1 ∧ fz = true then (L, false, 9) else (putN L (mrg old e), decide (old.a1 ≠ e.a1), 0)
  | none => if L.length ≥ 1024 then (L, false, 7) else (putN L e, false, 0)
theorem kOf_st1 (e x : S37) : kOf (stN e x) = kOf x := by unfold stN; split <;> rfl
theorem kOf_mrg {old e : S37} : kOf (mrg old e) = kOf e := by unfold mrg; split <;> rfl
theorem insN_perm (e : S37) : ∀ L, (insN e L).Perm (e :: L)
  | [] => List.Perm.refl _
  | x :: l => by
    unfold insN
    split
    · exact ((insN_perm e l).cons x).trans (List.Perm.swap _ _ _)
    · exact List.Perm.refl _
theorem insN_mem {e x : S37} {L : List S37} : x ∈ insN e L ↔ x = e ∨ x ∈ L := by rw [(insN_perm e L).mem_iff, List.mem_cons]
theorem insN_srt {e : S37} : ∀ {L}, SrtN L → (∀ x ∈ L, rkN x ≠ rkN e) → SrtN (insN e L)
  | [], _, _ => by unfold insN SrtN; simp
  | x :: l, h, hn => by
    unfold SrtN at h
    rw [List.map_cons, List.pairwise_cons] at h
    unfold insN
    by_cases hlt : rkN x < rkN e
    · rw [if_pos hlt]
      unfold SrtN
      rw [List.map_cons, List.pairwise_cons]
      refine ⟨fun r hr => ?_, insN_srt h.2 fun y hy => hn y (List.mem_cons_of_mem _ hy)⟩
      obtain ⟨y, hy, rfl⟩ := List.mem_map.1 hr
      rcases insN_mem.1 hy with rfl | hy
      · exact hlt
      · exact h.1 _ (List.mem_map_of_mem hy)
    · rw [if_neg hlt]
      have h0 := hn x (List.mem_cons_self ..)
      unfold SrtN
      rw [List.map_cons, List.pairwise_cons, List.map_cons, List.pairwise_cons]
      refine ⟨fun r hr => ?_, h.1, h.2⟩
      rcases List.mem_cons.1 hr with rfl | hr
      · omega
      · have := h.1 r hr
        omega
theorem SrtN.sub {L M : List S37} (h : SrtN L) (hs : M.Sublist L) : SrtN M := h.sublist (hs.map _)
theorem SrtN.st {L : List S37} (e : S37) (h : SrtN L) : SrtN (L.map (stN e)) := by
  unfold SrtN at *
  rw [List.map_map]
  have : (rkN ∘ stN e) = rkN := by funext x; show rkK (kOf (stN e x)) = _; rw [kOf_st1]; rfl
  rw [this]; exact h
theorem SrtN.inj {L : List S37} (h : SrtN L) : ∀ {x y}, x ∈ L → y ∈ L → rkN x = rkN y → x = y := by
  intro x y hx hy e
  unfold SrtN at h
  induction L with
  | nil => cases hx
  | cons a l ih =>
    rw [List.map_cons, List.pairwise_cons] at h
    rcases List.mem_cons.1 hx with e1 | h1 <;> rcases List.mem_cons.1 hy with e2 | h2
    · rw [e1, e2]
    · have := h.1 _ (List.mem_map_of_mem (f := rkN) h2); rw [e1] at e; omega
    · have := h.1 _ (List.mem_map_of_mem (f := rkN) h1); rw [e2] at e; omega
    · exact ih h.2 h1 h2
theorem SrtN.unique {L M : List S37} (h : SrtN L) (h2 : SrtN M) (hp : L.Perm M) : L = M :=
  srt_unique hp (fun x hx y hy e => h.inj hx hy e) (h.imp fun h => by omega) (h2.imp fun h => by omega)
theorem SrtN.nd {L : List S37} (h : SrtN L) : L.Nodup := by
  have h2 : (L.map rkN).Nodup := h.imp fun h => by omega
  exact (List.pairwise_map.1 h2).imp fun h e => h (by rw [e])
theorem SrtN.key {L : List S37} (h : SrtN L) {x y : S37} (hx : x ∈ L) (hy : y ∈ L) (e : kOf x = kOf y) : x = y := h.inj hx hy (by unfold rkN; rw [e])
theorem rk_inj {a b : Kk} (ha : okK a) (hb : okK b) (h : rkK a = rkK b) : a = b := by
  unfold okK at ha hb
  unfold rkK at h
  exact Kk.eta (by omega) (by omega)
theorem findN_iff {L : List S37} (h : SrtN L) {k : Kk} {x : S37} : findN L k = some x ↔ x ∈ L ∧ kOf x = k := by
  constructor
  · intro e
    exact ⟨List.mem_of_find?_eq_some e, by simpa using List.find?_some e⟩
  · rintro ⟨hm, rfl⟩
    unfold findN
    cases e : L.find? fun y => decide (kOf y = kOf x) with
    | none =>
      have := List.find?_eq_none.1 e x hm
      simp at this
    | some y =>
      have h1 := List.mem_of_find?_eq_some e
      have h2 : kOf y = kOf x := by simpa using List.find?_some e
      rw [h.key h1 hm h2]
def okE (x : S37) : Prop := x.wf ∧ chkN x = 0
theorem okE.k {x : S37} (h : x.wf) : okK (kOf x) := ⟨h.1, h.2.2.1⟩
/-- Two maps that hold a table. -/
structure TabI (ms : List (Kk × S37 × Nat)) (c : Nat) (os : List ((Int × Int) × Int × Nat)) (L : List S37) : Prop where
  born : Born ms c
  uq : Uq ms
  uo : Uq os
  fnd : ∀ k x, lkH ms k = some x ↔ x ∈ L ∧ kOf x = k
  srt : SrtN L
  val : ∀ x ∈ L, okE x
  own : ∀ q m, lkH os q = some m ↔ ∃ x ∈ L, x.a4 = true ∧ (x.a0, x.a3) = q ∧ x.a2 = m
variable {ms : List (Kk × S37 × Nat)} {c c2 : Nat} {os : List ((Int × Int) × Int × Nat)} {L : List S37}
theorem TabI.look (h : TabI ms c os L) (k : Kk) : lkH ms k = findN L k := by
  apply Option.ext
  intro x
  rw [h.fnd, findN_iff h.srt]
theorem TabI.mem (h : TabI ms c os L) {p : Kk × S37 × Nat} (hp : p ∈ ms) : p.2.1 ∈ L ∧ kOf p.2.1 = p.1 := (h.fnd _ _).1 (h.uq.lkH (k := p.1) (v := p.2.1) (n := p.2.2) hp)
theorem TabI.perm (h : TabI ms c os L) : (ms.map (·.2.1)).Perm L := by
  have hnd : (ms.map (·.2.1)).Nodup := by
    have e : (ms.map (·.2.1)).map kOf = ms.map (·.1) := by
      rw [List.map_map]
      exact List.map_congr_left fun p hp => (h.mem hp).2
    have h1 : ((ms.map (·.2.1)).map kOf).Nodup := by rw [e]; exact h.uq
    exact (List.pairwise_map.1 h1).imp fun h e => h (by rw [e])
  rw [List.perm_ext_iff_of_nodup hnd h.srt.nd]
  intro x
  constructor
  · intro hx
    obtain ⟨p, hp, rfl⟩ := List.mem_map.1 hx
    exact (h.mem hp).1
  · intro hx
    obtain ⟨n, hn⟩ := lkH_mem ((h.fnd (kOf x) x).2 ⟨hx, rfl⟩)
    exact List.mem_map.2 ⟨_, hn, rfl⟩
theorem TabI.len (h : TabI ms c os L) : ms.length = L.length := by have := h.perm.length_eq; rwa [List.length_map] at this
theorem TabI.new : TabI [] 0 [] [] := ⟨Born.nil 0, List.nodup_nil, List.nodup_nil, fun k x => (by simp [lkH, fH]), List.Pairwise.nil, fun x h => (by cases h), fun q m => (by simp [lkH, fH])⟩
end Go.Proofs.Ytojnbjandkbkmaa.Abs

/- Learning, on the two maps that hold a table. -/
namespace Go.Proofs.Ytojnbjandkbkmaa.Abs
open Go
set_option linter.unusedVariables false
variable {ms : List (Kk × S37 × Nat)} {c c2 : Nat} {os os1 : List ((Int × Int) × Int × Nat)} {L : List S37}
theorem putN_mem {e x : S37} : x ∈ putN L e ↔ x = e ∨ ∃ y ∈ L, kOf y ≠ kOf e ∧ stN e y = x := by
  unfold putN rmN
  rw [insN_mem, List.mem_map]
  constructor
  · rintro (h | ⟨y, hy, rfl⟩)
    · exact .inl h
    · obtain ⟨h1, h2⟩ := List.mem_filter.1 hy
      exact .inr ⟨y, h1, by simpa using h2, rfl⟩
  · rintro (h | ⟨y, h1, h2, rfl⟩)
    · exact .inl h
    · exact .inr ⟨y, List.mem_filter.2 ⟨h1, by simpa using h2⟩, rfl⟩
theorem okE.st {e x : S37} (h : okE x) : okE (stN e x) := by
  unfold stN
  split
  · obtain ⟨h1, h2⟩ := h
    unfold S37.wf at h1
    refine ⟨by unfold S37.wf; dsimp only; omega, ?_⟩
    unfold chkN at h2 ⊢
    split at h2
    · cases h2
    · rename_i g1
      split at h2
      · cases h2
      · rename_i g2
        dsimp only
        rw [if_neg g1, if_neg]
        intro g3
        apply g2
        rcases g3 with g | g | g | g
        · exact .inl g
        · exact .inr (.inl g)
        · exact .inr (.inr (.inl g))
        · simp at g
  · exact h
theorem okE.ne {x y : S37} (hx : okE x) (hy : okE y) (h : kOf x ≠ kOf y) : rkN x ≠ rkN y := fun e => h (rk_inj (okE.k hx.1) (okE.k hy.1) e)
theorem putN_srt {e : S37} (h : SrtN L) (hv : ∀ x ∈ L, okE x) (he : okE e) : SrtN (putN L e) := by
  unfold putN
  refine insN_srt ((h.sub List.filter_sublist).st e) fun x hx => ?_
  obtain ⟨y, hy, rfl⟩ := List.mem_map.1 hx
  obtain ⟨h1, h2⟩ := List.mem_filter.1 hy
  exact ((hv y h1).st).ne he (by rw [kOf_st1]; simpa using h2)
theorem putN_val {e : S37} (hv : ∀ x ∈ L, okE x) (he : okE e) : ∀ x ∈ putN L e, okE x := fun x hx => by
  rcases putN_mem.1 hx with rfl | ⟨y, h1, h2, rfl⟩
  · exact he
  · exact (hv y h1).st
/-- Who has an IP address, but for the entry of one key. -/
def OwnR (os : List ((Int × Int) × Int × Nat)) (L : List S37) (k : Kk) : Prop := ∀ q m, lkH os q = some m ↔ ∃ x ∈ L, kOf x ≠ k ∧ x.a4 = true ∧ (x.a0, x.a3) = q ∧ x.a2 = m
theorem TabI.own_key (h : TabI ms c os L) {x y : S37} (hx : x ∈ L) (hy : y ∈ L) (h1 : x.a4 = true) (h2 : y.a4 = true) (h3 : x.a0 = y.a0) (h4 : x.a3 = y.a3) : x = y := by
  have e1 := (h.own (x.a0, x.a3) x.a2).2 ⟨x, hx, h1, rfl, rfl⟩
  have e2 := (h.own (x.a0, x.a3) y.a2).2 ⟨y, hy, h2, by rw [h3, h4], rfl⟩
  rw [e1] at e2
  exact h.srt.key hx hy (Kk.eta h3 (Option.some.inj e2))
theorem TabI.rel_none (h : TabI ms c os L) {k : Kk} (hk : findN L k = none) : OwnR os L k := fun q m => by
  rw [h.own]
  constructor
  · rintro ⟨x, hx, h1, h2, h3⟩
    exact ⟨x, hx, fun e => (by rw [(findN_iff h.srt).2 ⟨hx, e⟩] at hk; cases hk), h1, h2, h3⟩
  · rintro ⟨x, hx, _, h1, h2, h3⟩; exact ⟨x, hx, h1, h2, h3⟩
theorem TabI.rel_no (h : TabI ms c os L) {k : Kk} {o : S37} (hk : findN L k = some o) (ho : o.a4 = false) : OwnR os L k := fun q m => by
  obtain ⟨ho1, ho2⟩ := (findN_iff h.srt).1 hk
  rw [h.own]
  constructor
  · rintro ⟨x, hx, h1, h2, h3⟩
    exact ⟨x, hx, fun e => (by rw [h.srt.key hx ho1 (e.trans ho2.symm), ho] at h1; cases h1), h1, h2, h3⟩
  · rintro ⟨x, hx, _, h1, h2, h3⟩; exact ⟨x, hx, h1, h2, h3⟩
theorem TabI.rel_yes (h : TabI ms c os L) {k : Kk} {o : S37} (hk : findN L k = some o) (ho : o.a4 = true) : OwnR (delH os (o.a0, o.a3)) L k := fun q m => by
  obtain ⟨ho1, ho2⟩ := (findN_iff h.srt).1 hk
  rw [lkH_del h.uo]
  by_cases e : q = (o.a0, o.a3)
  · rw [if_pos e]
    constructor
    · intro h; cases h
    · rintro ⟨x, hx, h0, h1, h2, h3⟩
      rw [e] at h2
      obtain ⟨e1, e2⟩ := Prod.mk.inj h2
      exact absurd (by rw [h.own_key hx ho1 h1 ho e1 e2, ho2]) h0
  · rw [if_neg e, h.own]
    constructor
    · rintro ⟨x, hx, h1, h2, h3⟩
      exact ⟨x, hx, fun e2 => e (by rw [← h2, h.srt.key hx ho1 (e2.trans ho2.symm)]), h1, h2, h3⟩
    · rintro ⟨x, hx, _, h1, h2, h3⟩; exact ⟨x, hx, h1, h2, h3⟩
theorem stN_no {e : S37} (h : e.a4 = false) (x : S37) : stN e x = x := by unfold stN; rw [if_neg (fun g => by rw [h] at g; cases g.1)]
/-- Nobody has the entry's IP address. -/
theorem TabI.put0 (h : TabI ms c os L) {e : S37} (he : okE e) (ho : OwnR os1 L (kOf e)) (hu : Uq os1) {os2 : List ((Int × Int) × Int × Nat)} (hu2 : Uq os2)
    (hst : ∀ x ∈ L, kOf x ≠ kOf e → stN e x = x) (h2 : ∀ q, lkH os2 q = if e.a4 = true ∧ q = (e.a0, e.a3) then some e.a2 else lkH os1 q) : TabI (updH ms c (kOf e) e) (updC ms c (kOf e)) os2 (putN L e) := by
  refine ⟨h.born.upd, h.uq.upd, hu2, fun k x => ?_, putN_srt h.srt h.val he, putN_val h.val he, fun q m => ?_⟩
  · rw [lkH_upd h.uq, putN_mem]
    by_cases hk : k = kOf e
    · rw [if_pos hk]
      constructor
      · intro e1; cases e1; exact ⟨.inl rfl, hk.symm⟩
      · rintro ⟨rfl | ⟨y, hy, h3, rfl⟩, h4⟩
        · rfl
        · rw [kOf_st1] at h4; exact absurd (h4.trans hk) h3
    · rw [if_neg hk, h.fnd]
      constructor
      · rintro ⟨h3, h4⟩
        exact ⟨.inr ⟨x, h3, fun g => hk (h4.symm.trans g), hst x h3 fun g => hk (h4.symm.trans g)⟩, h4⟩
      · rintro ⟨rfl | ⟨y, hy, h3, rfl⟩, h4⟩
        · exact absurd h4.symm hk
        · rw [hst y hy h3] at h4 ⊢; exact ⟨hy, h4⟩
  · rw [h2]
    by_cases hq : e.a4 = true ∧ q = (e.a0, e.a3)
    · rw [if_pos hq]
      constructor
      · intro e1; cases e1; exact ⟨e, putN_mem.2 (.inl rfl), hq.1, hq.2.symm, rfl⟩
      · rintro ⟨x, hx, h3, h4, h5⟩
        rcases putN_mem.1 hx with rfl | ⟨y, hy, g1, g2⟩
        · rw [h5]
        · exfalso
          rw [hq.2] at h4
          obtain ⟨e1, e2⟩ := Prod.mk.inj h4
          rw [hst y hy g1] at g2
          subst g2
          have := hst y hy g1
          unfold stN at this
          rw [if_pos ⟨hq.1, e1, h3, e2⟩] at this
          have := congrArg S37.a4 this
          rw [h3] at this
          cases this
    · rw [if_neg hq, ho]
      constructor
      · rintro ⟨x, hx, h0, h3, h4, h5⟩
        exact ⟨x, putN_mem.2 (.inr ⟨x, hx, h0, hst x hx h0⟩), h3, h4, h5⟩
      · rintro ⟨x, hx, h3, h4, h5⟩
        rcases putN_mem.1 hx with rfl | ⟨y, hy, g1, g2⟩
        · exact absurd ⟨h3, h4.symm⟩ hq
        · rw [hst y hy g1] at g2
          subst g2
          exact ⟨y, hy, g1, h3, h4, h5⟩
/-- Somebody has it. -/
theorem TabI.put1 (h : TabI ms c os L) {e : S37} (he : okE e) (ho : OwnR os1 L (kOf e)) (hu : Uq os1) {mac : Int} {co : Nat} (h4 : e.a4 = true) (hm : lkH os1 (e.a0, e.a3) = some mac) :
    ∃ x ∈ L, lkH ms ⟨e.a0, mac⟩ = some x ∧ TabI (updH (updH ms c ⟨e.a0, mac⟩ { x with a3 := 0, a4 := false }) (updC ms c ⟨e.a0, mac⟩) (kOf e) e) (updC (updH ms c ⟨e.a0, mac⟩ { x with a3 := 0, a4 := false }) (updC ms c ⟨e.a0, mac⟩) (kOf e)) (updH os1 co (e.a0, e.a3) e.a2) (putN L e) := by
  obtain ⟨x, hx, hxk, hx4, hxq, hxm⟩ := (ho _ _).1 hm
  obtain ⟨hx0, hx3⟩ := Prod.mk.inj hxq
  have hkx : kOf x = ⟨e.a0, mac⟩ := Kk.eta hx0 hxm
  refine ⟨x, hx, (h.fnd _ _).2 ⟨hx, hkx⟩, ?_⟩
  rw [hkx] at hxk
  have hsx : stN e x = { x with a3 := 0, a4 := false } := by unfold stN; rw [if_pos ⟨h4, hx0, hx4, hx3⟩]
  have hst : ∀ y ∈ L, kOf y ≠ ⟨e.a0, mac⟩ → stN e y = y := fun y hy hk => by
    unfold stN
    rw [if_neg]
    rintro ⟨g1, g2, g3, g4⟩
    exact hk (by rw [h.own_key hy hx g3 hx4 (g2.trans hx0.symm) (g4.trans hx3.symm), hkx])
  refine ⟨(h.born.upd).upd, (h.uq.upd).upd, hu.upd, fun k y => ?_, putN_srt h.srt h.val he, putN_val h.val he, fun q m => ?_⟩
  · rw [lkH_upd h.uq.upd, lkH_upd h.uq, putN_mem]
    by_cases hk : k = kOf e
    · rw [if_pos hk]
      constructor
      · intro e1; cases e1; exact ⟨.inl rfl, hk.symm⟩
      · rintro ⟨rfl | ⟨z, hz, h5, rfl⟩, h6⟩
        · rfl
        · rw [kOf_st1] at h6; exact absurd (h6.trans hk) h5
    · rw [if_neg hk]
      by_cases hk2 : k = ⟨e.a0, mac⟩
      · rw [if_pos hk2, ← hsx]
        constructor
        · intro e1; cases e1
          exact ⟨.inr ⟨x, hx, by rw [hkx]; exact hxk, rfl⟩, by rw [kOf_st1, hkx, hk2]⟩
        · rintro ⟨rfl | ⟨z, hz, h5, rfl⟩, h6⟩
          · exact absurd h6.symm hk
          · rw [kOf_st1] at h6
            rw [h.srt.key hz hx (by rw [h6, hk2, hkx])]
      · rw [if_neg hk2, h.fnd]
        constructor
        · rintro ⟨h5, h6⟩
          exact ⟨.inr ⟨y, h5, fun g => hk (h6.symm.trans g), hst y h5 fun g => hk2 (h6.symm.trans g)⟩, h6⟩
        · rintro ⟨rfl | ⟨z, hz, h5, rfl⟩, h6⟩
          · exact absurd h6.symm hk
          · rw [kOf_st1] at h6
            rw [hst z hz (by rw [h6]; exact hk2)]
            exact ⟨hz, h6⟩
  · rw [lkH_upd hu]
    by_cases hq : q = (e.a0, e.a3)
    · rw [if_pos hq]
      constructor
      · intro e1; cases e1; exact ⟨e, putN_mem.2 (.inl rfl), h4, hq.symm, rfl⟩
      · rintro ⟨y, hy, h5, h6, h7⟩
        rcases putN_mem.1 hy with rfl | ⟨z, hz, g1, g2⟩
        · rw [h7]
        · exfalso
          rw [hq] at h6
          obtain ⟨e1, e2⟩ := Prod.mk.inj h6
          by_cases hzk : kOf z = ⟨e.a0, mac⟩
          · rw [h.srt.key hz hx (hzk.trans hkx.symm), hsx] at g2
            rw [← g2] at h5
            cases h5
          · rw [hst z hz hzk] at g2
            subst g2
            exact hzk (by rw [h.own_key hz hx h5 hx4 (e1.trans hx0.symm) (e2.trans hx3.symm), hkx])
    · rw [if_neg hq, ho]
      constructor
      · rintro ⟨y, hy, h0, h5, h6, h7⟩
        refine ⟨y, putN_mem.2 (.inr ⟨y, hy, h0, hst y hy fun g => hq ?_⟩), h5, h6, h7⟩
        rw [← h6, h.srt.key hy hx (g.trans hkx.symm), hx0, hx3]
      · rintro ⟨y, hy, h5, h6, h7⟩
        rcases putN_mem.1 hy with rfl | ⟨z, hz, g1, g2⟩
        · exact absurd h6.symm hq
        · by_cases hzk : kOf z = ⟨e.a0, mac⟩
          · rw [h.srt.key hz hx (hzk.trans hkx.symm), hsx] at g2
            rw [← g2] at h5
            cases h5
          · rw [hst z hz hzk] at g2
            subst g2
            exact ⟨z, hz, g1, h5, h6, h7⟩
theorem TabI.own0 (h : TabI ms c os L) {e : S37} (ho : OwnR os1 L (kOf e)) (hm : lkH os1 (e.a0, e.a3) = none) : ∀ x ∈ L, kOf x ≠ kOf e → stN e x = x := fun x hx hk => by
  unfold stN
  rw [if_neg]
  rintro ⟨g1, g2, g3, g4⟩
  have := (ho (e.a0, e.a3) x.a2).2 ⟨x, hx, hk, g3, by rw [g2, g4], rfl⟩
  rw [hm] at this
  cases this
theorem okE.mrg {o e : S37} (ho : okE o) (he : okE e) : okE (mrg o e) := by
  unfold Abs.mrg
  split
  · obtain ⟨w1, c1⟩ := ho
    obtain ⟨w2, c2⟩ := he
    unfold S37.wf at w1 w2
    unfold chkN at c1 c2
    split at c1
    · cases c1
    rename_i a1
    split at c1
    · cases c1
    rename_i a2
    split at c2
    · cases c2
    rename_i b1
    split at c2
    · cases c2
    rename_i b2
    refine ⟨?_, ?_⟩
    · unfold S37.wf
      dsimp only
      refine ⟨w2.1, w2.2.1, w2.2.2.1, ?_, ?_⟩ <;> split <;> omega
    · unfold chkN
      dsimp only
      rw [if_neg (by split <;> omega), if_neg]
      intro g
      cases h4 : e.a4 with
      | true =>
        rw [h4] at g
        simp only [if_true, Bool.true_or] at g
        apply b2
        rcases g with g | g | g | g
        · exact .inl g
        · exact .inr (.inl g)
        · exact .inr (.inr (.inl g))
        · refine .inr (.inr (.inr ?_)); rw [h4]; simpa using g
      | false =>
        rw [h4] at g
        simp only [Bool.false_or] at g
        rcases g with g | g | g | g
        · exact b2 (.inl g)
        · exact b2 (.inr (.inl g))
        · exact b2 (.inr (.inr (.inl g)))
        · exact a2 (.inr (.inr (.inr (by simpa using g))))
  · exact he
end Go.Proofs.Ytojnbjandkbkmaa.Abs

/- Contracts: checks of entries, the bindings of IP addresses. -/
namespace Go.Proofs.Ytojnbjandkbkmaa.Abs
open Go
set_option linter.unusedVariables false
def ekK (k : Kk) : Value := .agg ⟨enK k⟩
def evN (x : S37) : Value := .agg ⟨en37 x⟩
def ekP (q : Int × Int) : Value := .agg ⟨[.int .i64 q.1, .int .u32 q.2]⟩
def evM (m : Int) : Value := .int .u64 m
def zN : S37 := ⟨0, 0, 0, 0, false, 0⟩
section
variable {B0 : Nat} {old : Nat → Option (List Value)} {n : Nat} {H Hs : Hp} {Q : Value → Hp → Prop}
set_option maxRecDepth 10000
set_option maxHeartbeats 4000000
theorem akeyK (a b : Int) : (akeyOk (cx B0 old) 10000 78 (.agg ⟨[.int .i64 a, .int .u64 b]⟩) && scal (.agg ⟨[.int .i64 a, .int .u64 b]⟩)) = true := by kernel_rfl
theorem bitsK (a b : Int) : Instr.sameBits 10000 (.agg ⟨[.int .i64 a, .int .u64 b]⟩) (.agg ⟨[.int .i64 a, .int .u64 b]⟩) = true := by
  show Instr.sameBits (9999 + 1) _ _ = true
  simp [Instr.sameBits]
theorem lvK : leavesE (cx B0 old) 20 78 = some [3, 33] := by kernel_rfl
theorem keyMapK : KeyMap (cx B0 old) 70 ekK (.agg ⟨en37 zN⟩) := by
  refine ⟨⟨78, 37, _, rfl, fun k => akeyK _ _, fun a b => ?_, rfl, rfl, rfl⟩, fun k => bitsK _ _⟩
  obtain ⟨g, hg', hE⟩ := eqOk 20 78 _ (lvK (B0 := B0) (old := old))
  obtain ⟨x, y, ha, hb, _, he⟩ := hE (enK a) (enK b) rfl rfl Op.maxDepth (by decide)
  have hg : aggAt (cx B0 old) 78 = some true := rfl
  rw [hg] at hg'
  cases hg'
  cases ha
  cases hb
  have e : leafsEq (enK a) (enK b) = decide (a = b) := by
    simp only [leafsEq, leafEq, enK]
    by_cases h : a = b
    · subst h; simp
    · rw [decide_eq_false h]
      by_cases h1 : a.bd = b.bd
      · have h2 : a.mac ≠ b.mac := fun g => h (Kk.eta h1 g)
        simp [h1, h2]
      · simp [h1]
  rw [← e]
  exact he
theorem akeyP (a b : Int) : (akeyOk (cx B0 old) 10000 91 (.agg ⟨[.int .i64 a, .int .u32 b]⟩) && scal (.agg ⟨[.int .i64 a, .int .u32 b]⟩)) = true := by kernel_rfl
theorem bitsP (a b : Int) : Instr.sameBits 10000 (.agg ⟨[.int .i64 a, .int .u32 b]⟩) (.agg ⟨[.int .i64 a, .int .u32 b]⟩) = true := by
  show Instr.sameBits (9999 + 1) _ _ = true
  simp [Instr.sameBits]
theorem lvP : leavesE (cx B0 old) 20 91 = some [3, 35] := by kernel_rfl
theorem keyMapP : KeyMap (cx B0 old) 67 ekP (.int .u64 0) := by
  refine ⟨⟨91, 33, _, rfl, fun k => akeyP _ _, fun a b => ?_, rfl, rfl, rfl⟩, fun k => bitsP _ _⟩
  obtain ⟨g, hg', hE⟩ := eqOk 20 91 _ (lvP (B0 := B0) (old := old))
  obtain ⟨x, y, ha, hb, _, he⟩ := hE [.int .i64 a.1, .int .u32 a.2] [.int .i64 b.1, .int .u32 b.2] rfl rfl Op.maxDepth (by decide)
  have hg : aggAt (cx B0 old) 91 = some true := rfl
  rw [hg] at hg'
  cases hg'
  cases ha
  cases hb
  have e : leafsEq [.int .i64 a.1, .int .u32 a.2] [.int .i64 b.1, .int .u32 b.2] = decide (a = b) := by
    simp only [leafsEq, leafEq]
    obtain ⟨a1, a2⟩ := a
    obtain ⟨b1, b2⟩ := b
    by_cases h1 : a1 = b1 <;> by_cases h2 : a2 = b2 <;> simp [h1, h2]
  rw [← e]
  exact he
theorem chk34_ct (x : S37) (hw : x.wf) (h : Q (.int .i64 (chkN x)) H) : CallT (cx B0 old) (acall (cx B0 old) ansP (n + 1)) 34 [.agg ⟨en37 x⟩] H Q := by
  refine call_in1 52 rfl Try.func34 rfl rfl ?_
  have h' : ∀ r, chkN x = r → Q (.int .i64 r) H := fun r e => e ▸ h
  clear h
  unfold S37.wf at hw
  unfold chkN b40 at h'
  obtain ⟨a0, a1, a2, a3, a4, a5⟩ := x
  dsimp only at hw h'
  unfold en37
  dsimp only
  cases a4
  all_goals repeat' (first | refine Z0 ?_ | (refine ZR ?_; first | refine x1 ?_ | refine x2 ?_ | refine x8 ?_ | refine Z1 ?_ | refine Z2 ?_ | refine x3 fun _ => ?_ | refine x4 fun _ => ?_ | refine x5 fun _ => ?_ | refine Z3 fun _ => ?_ | refine Z4 fun _ => ?_) | refine Za ?_ | refine Zb ?_ | refine Zl ?_ | refine Zc ?_ | refine Ze ?_ | refine Zi ?_ | refine Zj ?_ | refine Zf ?_ | refine Zg ?_ | refine Zm ?_ | refine Zn ?_ | refine Zo ?_ | refine Zp ?_ | refine Zq ?_ | refine Zr ?_ | refine Zk ?_ | refine Y0 ?_ | (refine YP ?_; first | refine y1 ?_ | refine y2 ?_ | refine Y1 ?_ | refine Y2 ?_) | (refine isPlan ?_; refine y3 ?_) | (first | (refine isRun ?_; refine z1 (fun hc => ?_) (fun hc => ?_)) | refine z2 (fun hc => ?_) (fun hc => ?_) | (refine isPlan ?_; refine z3 (fun hc => ?_) (fun hc => ?_))))
  all_goals refine re_1 rfl rfl (by exact drop_auto) (h' _ ?_)
  all_goals first
    | (rw [if_pos (by omega)]; done)
    | (rw [if_neg (by omega), if_pos (by first | (left; omega) | (right; left; omega) | (right; right; left; assumption) | (right; right; right; simp_all; done))]; done)
    | (rw [if_neg (by omega), if_neg (by intro g; rcases g with g | g | g | g <;> first | omega | contradiction | (simp_all; done))]; done)
    | skip
theorem inv33_ct {p ob eb : Nat} {age : Int} (h : Q (.bool false) ((p, .row [.map (some ob), .int .i64 age, .map (some eb)] 3 false) :: H)) :
    CallT (cx B0 old) (acall (cx B0 old) ansP (n + 1)) 33 [.pointer (some ⟨p, 0, none⟩)] ((p, .row [.map (some ob), .int .i64 age, .map (some eb)] 3 false) :: H) Q := by
  refine call_in1 12 rfl Try.func33 rfl rfl ?_
  repeat (first | refine Z0 ?_ | (refine ZR ?_; first | refine x1 ?_ | refine x2 ?_ | refine x8 ?_ | refine Z1 ?_ | refine Z2 ?_ | refine x3 fun _ => ?_ | refine x4 fun _ => ?_ | refine x5 fun _ => ?_ | refine Z3 fun _ => ?_ | refine Z4 fun _ => ?_) | refine ZC ?_)
  exact re_1 rfl rfl (by exact drop_auto) h
end
end Go.Proofs.Ytojnbjandkbkmaa.Abs

/- Contracts: the bindings of IP addresses; what an entry takes. -/
namespace Go.Proofs.Ytojnbjandkbkmaa.Abs
open Go
set_option linter.unusedVariables false
theorem pb {a b c d : Nat × AObj} {H : Hp} : (a :: b :: c :: d :: H).Perm (d :: a :: b :: c :: H) := pm3.symm
section
variable {B0 : Nat} {old : Nat → Option (List Value)} {n : Nat} {H Hs : Hp} {Q : Value → Hp → Prop} {p ob eb co c : Nat} {age : Int} {os : List ((Int × Int) × Int × Nat)} {ms : List (Kk × S37 × Nat)}
set_option maxRecDepth 10000
set_option maxHeartbeats 4000000
theorem rel35_ct (x : S37) (h : ∀ w, Q w ((p, .row [.map (some ob), .int .i64 age, .map (some eb)] 3 false) :: (ob, .map (mkH ekP evM (if x.a4 = true then delH os (x.a0, x.a3) else os)) co) :: (eb, .map (mkH ekK evN ms) c) :: H)) :
    CallT (cx B0 old) (acall (cx B0 old) ansP (n + 1)) 35 [.pointer (some ⟨p, 0, none⟩), .agg ⟨en37 x⟩] ((p, .row [.map (some ob), .int .i64 age, .map (some eb)] 3 false) :: (ob, .map (mkH ekP evM os) co) :: (eb, .map (mkH ekK evN ms) c) :: H) Q := by
  refine call_in2 15 rfl Try.func35 rfl rfl ?_
  obtain ⟨a0, a1, a2, a3, a4, a5⟩ := x
  dsimp only at h
  unfold en37
  dsimp only
  cases a4 with
  | false =>
    rw [if_neg (by decide)] at h
    repeat (first | refine Z0 ?_ | (refine ZR ?_; first | refine x1 ?_ | refine x2 ?_ | refine x8 ?_ | refine Z1 ?_ | refine Z2 ?_ | refine x3 fun _ => ?_ | refine x4 fun _ => ?_ | refine x5 fun _ => ?_ | refine Z3 fun _ => ?_ | refine Z4 fun _ => ?_) | refine ZC ?_)
    exact re_0 rfl (by exact drop_auto) h
  | true =>
    rw [if_pos rfl] at h
    repeat (first | refine Z0 ?_ | (refine ZR ?_; first | refine x1 ?_ | refine x2 ?_ | refine x8 ?_ | refine Z1 ?_ | refine Z2 ?_ | refine x3 fun _ => ?_ | refine x4 fun _ => ?_ | refine x5 fun _ => ?_ | refine Z3 fun _ => ?_ | refine Z4 fun _ => ?_) | refine ZC ?_)
    refine ct_draw (masks := [0, 1, 3, 7, 0, 16, 0, 64, 240, 511]) (plan := [0, 1, 2, 3, 4, 5, 6, 7, 8, 9]) (E := []) (by kernel_rfl) (by kernel_rfl) (by kernel_rfl) (by kernel_rfl) ?_
    repeat (first | refine Y0 ?_ | (refine YP ?_; first | refine y1 ?_ | refine y2 ?_ | refine Y1 ?_ | refine Y2 ?_))
    refine pl_S0 rfl rfl rfl rfl rfl (st_delete rfl rfl (delE_K keyMapP os (a0, a3)) sw2 ⟨by exact rec_auto, ?_⟩)
    repeat (first | refine Y0 ?_ | (refine YP ?_; first | refine y1 ?_ | refine y2 ?_ | refine Y1 ?_ | refine Y2 ?_))
    repeat (first | refine Z0 ?_ | (refine ZR ?_; first | refine x1 ?_ | refine x2 ?_ | refine x8 ?_ | refine Z1 ?_ | refine Z2 ?_ | refine x3 fun _ => ?_ | refine x4 fun _ => ?_ | refine x5 fun _ => ?_ | refine Z3 fun _ => ?_ | refine Z4 fun _ => ?_) | refine ZC ?_)
    exact re_0 rfl (by exact drop_auto) h
theorem bind53_ct (x : S37) (h : ∀ w, Q w ((p, .row [.map (some ob), .int .i64 age, .map (some eb)] 3 false) :: (ob, .map (mkH ekP evM (updH os co (x.a0, x.a3) x.a2)) (updC os co (x.a0, x.a3))) :: (eb, .map (mkH ekK evN ms) c) :: H)) :
    CallT (cx B0 old) (acall (cx B0 old) ansP (n + 1)) 53 [.pointer (some ⟨p, 0, none⟩), .agg ⟨en37 x⟩] ((p, .row [.map (some ob), .int .i64 age, .map (some eb)] 3 false) :: (ob, .map (mkH ekP evM os) co) :: (eb, .map (mkH ekK evN ms) c) :: H) Q := by
  refine call_in2 15 rfl Try.func53 rfl rfl ?_
  unfold en37
  repeat (first | refine Z0 ?_ | (refine ZR ?_; first | refine x1 ?_ | refine x2 ?_ | refine x8 ?_ | refine Z1 ?_ | refine Z2 ?_ | refine x3 fun _ => ?_ | refine x4 fun _ => ?_ | refine x5 fun _ => ?_ | refine Z3 fun _ => ?_ | refine Z4 fun _ => ?_) | refine ZC ?_)
  refine ct_draw (masks := [0, 1, 3, 7, 0, 16, 0, 64, 240, 0, 512, 2047]) (plan := [0, 1, 2, 3, 4, 5, 6, 7, 8, 9, 10, 11]) (E := []) (by kernel_rfl) (by kernel_rfl) (by kernel_rfl) (by kernel_rfl) ?_
  repeat (first | refine Y0 ?_ | (refine YP ?_; first | refine y1 ?_ | refine y2 ?_ | refine Y1 ?_ | refine Y2 ?_))
  refine pl_S0 rfl rfl rfl rfl rfl (st_update rfl rfl rfl (updE_K keyMapP os co (x.a0, x.a3) x.a2) sw2 ⟨by exact rec_auto, ?_⟩)
  repeat (first | refine Y0 ?_ | (refine YP ?_; first | refine y1 ?_ | refine y2 ?_ | refine Y1 ?_ | refine Y2 ?_))
  repeat (first | refine Z0 ?_ | (refine ZR ?_; first | refine x1 ?_ | refine x2 ?_ | refine x8 ?_ | refine Z1 ?_ | refine Z2 ?_ | refine x3 fun _ => ?_ | refine x4 fun _ => ?_ | refine x5 fun _ => ?_ | refine Z3 fun _ => ?_ | refine Z4 fun _ => ?_) | refine ZC ?_)
  exact re_0 rfl (by exact drop_auto) h
theorem own52_ct (bd ip : Int) (h0 : lkH os (bd, ip) = none → Q (.tuple #[.int .u64 0, .bool false]) ((p, .row [.map (some ob), .int .i64 age, .map (some eb)] 3 false) :: (ob, .map (mkH ekP evM os) co) :: (eb, .map (mkH ekK evN ms) c) :: H)) (h1 : ∀ m, lkH os (bd, ip) = some m → Q (.tuple #[.int .u64 m, .bool true]) ((p, .row [.map (some ob), .int .i64 age, .map (some eb)] 3 false) :: (ob, .map (mkH ekP evM os) co) :: (eb, .map (mkH ekK evN ms) c) :: H)) :
    CallT (cx B0 old) (acall (cx B0 old) ansP (n + 1)) 52 [.pointer (some ⟨p, 0, none⟩), .int .i64 bd, .int .u32 ip] ((p, .row [.map (some ob), .int .i64 age, .map (some eb)] 3 false) :: (ob, .map (mkH ekP evM os) co) :: (eb, .map (mkH ekK evN ms) c) :: H) Q := by
  refine call_in3 23 rfl Try.func52 rfl rfl ?_
  have hlk := lookE_K (C := cx B0 old) (ev := evM) keyMapP os (bd, ip) true
  cases hq : lkH os (bd, ip) with
  | none =>
    rw [hq] at hlk
    have h := h0 hq
    simp only [if_true] at hlk
    repeat (first | refine Z0 ?_ | (refine ZR ?_; first | refine x1 ?_ | refine x2 ?_ | refine x8 ?_ | refine Z1 ?_ | refine Z2 ?_ | refine x3 fun _ => ?_ | refine x4 fun _ => ?_ | refine x5 fun _ => ?_ | refine Z3 fun _ => ?_ | refine Z4 fun _ => ?_) | refine ZC ?_)
    refine rt_r rfl rfl rfl (rd_lookup rfl rfl hm1 hlk) ?_
    repeat (first | refine Z0 ?_ | (refine ZR ?_; first | refine x1 ?_ | refine x2 ?_ | refine x8 ?_ | refine Z1 ?_ | refine Z2 ?_ | refine x3 fun _ => ?_ | refine x4 fun _ => ?_ | refine x5 fun _ => ?_ | refine Z3 fun _ => ?_ | refine Z4 fun _ => ?_) | refine ZC ?_)
    exact re_2 rfl rfl rfl (by exact drop_auto) h
  | some m =>
    rw [hq] at hlk
    have h := h1 m hq
    simp only [if_true] at hlk
    unfold evM at hlk
    repeat (first | refine Z0 ?_ | (refine ZR ?_; first | refine x1 ?_ | refine x2 ?_ | refine x8 ?_ | refine Z1 ?_ | refine Z2 ?_ | refine x3 fun _ => ?_ | refine x4 fun _ => ?_ | refine x5 fun _ => ?_ | refine Z3 fun _ => ?_ | refine Z4 fun _ => ?_) | refine ZC ?_)
    refine rt_r rfl rfl rfl (rd_lookup rfl rfl hm1 hlk) ?_
    repeat (first | refine Z0 ?_ | (refine ZR ?_; first | refine x1 ?_ | refine x2 ?_ | refine x8 ?_ | refine Z1 ?_ | refine Z2 ?_ | refine x3 fun _ => ?_ | refine x4 fun _ => ?_ | refine x5 fun _ => ?_ | refine Z3 fun _ => ?_ | refine Z4 fun _ => ?_) | refine ZC ?_)
    exact re_2 rfl rfl rfl (by exact drop_auto) h
theorem take36_ct (e : S37) (h0 : e.a4 = false → ∀ w, Q w ((p, .row [.map (some ob), .int .i64 age, .map (some eb)] 3 false) :: (ob, .map (mkH ekP evM os) co) :: (eb, .map (mkH ekK evN ms) c) :: H))
    (h1 : e.a4 = true → lkH os (e.a0, e.a3) = none → ∀ w, Q w ((p, .row [.map (some ob), .int .i64 age, .map (some eb)] 3 false) :: (ob, .map (mkH ekP evM (updH os co (e.a0, e.a3) e.a2)) (updC os co (e.a0, e.a3))) :: (eb, .map (mkH ekK evN ms) c) :: H))
    (h2 : e.a4 = true → ∀ mac, lkH os (e.a0, e.a3) = some mac → ∃ x : S37, lkH ms ⟨e.a0, mac⟩ = some x ∧ ∀ w, Q w ((p, .row [.map (some ob), .int .i64 age, .map (some eb)] 3 false) :: (ob, .map (mkH ekP evM (updH os co (e.a0, e.a3) e.a2)) (updC os co (e.a0, e.a3))) :: (eb, .map (mkH ekK evN (updH ms c ⟨e.a0, mac⟩ { x with a3 := 0, a4 := false })) (updC ms c ⟨e.a0, mac⟩)) :: H)) :
    CallT (cx B0 old) (acall (cx B0 old) ansP (n + 2)) 36 [.pointer (some ⟨p, 0, none⟩), .agg ⟨en37 e⟩] ((p, .row [.map (some ob), .int .i64 age, .map (some eb)] 3 false) :: (ob, .map (mkH ekP evM os) co) :: (eb, .map (mkH ekK evN ms) c) :: H) Q := by
  refine call_in2 46 rfl Try.func36 rfl rfl ?_
  obtain ⟨a0, a1, a2, a3, a4, a5⟩ := e
  dsimp only at h0 h1 h2
  unfold en37
  dsimp only
  cases a4 with
  | false =>
    repeat (first | refine Z0 ?_ | (refine ZR ?_; first | refine x1 ?_ | refine x2 ?_ | refine x8 ?_ | refine Z1 ?_ | refine Z2 ?_ | refine x3 fun _ => ?_ | refine x4 fun _ => ?_ | refine x5 fun _ => ?_ | refine Z3 fun _ => ?_ | refine Z4 fun _ => ?_) | refine ZC ?_)
    exact re_0r rfl (by exact drop_auto) (h0 rfl)
  | true =>
    have h1 := h1 rfl
    have h2 := h2 rfl
    repeat (first | refine Z0 ?_ | (refine ZR ?_; first | refine x1 ?_ | refine x2 ?_ | refine x8 ?_ | refine Z1 ?_ | refine Z2 ?_ | refine x3 fun _ => ?_ | refine x4 fun _ => ?_ | refine x5 fun _ => ?_ | refine Z3 fun _ => ?_ | refine Z4 fun _ => ?_) | refine ZC ?_)
    (first | refine CodeT.perm ?_ pb | refine RunT.perm ?_ pb | refine PlanT.perm ?_ pb)
    repeat (first | refine Z0 ?_ | (refine ZR ?_; first | refine x1 ?_ | refine x2 ?_ | refine x8 ?_ | refine Z1 ?_ | refine Z2 ?_ | refine x3 fun _ => ?_ | refine x4 fun _ => ?_ | refine x5 fun _ => ?_ | refine Z3 fun _ => ?_ | refine Z4 fun _ => ?_) | refine ZC ?_)
    refine ct_draw (masks := [0, 1, 3, 0, 8, 0, 32, 127, 255, 511, 511, 1023, 4095]) (plan := [0, 1, 2, 3, 4, 5, 6, 7, 8, 9, 10, 11, 12]) (E := []) (by kernel_rfl) (by kernel_rfl) (by kernel_rfl) (by kernel_rfl) ?_
    repeat (first | refine Y0 ?_ | (refine YP ?_; first | refine y1 ?_ | refine y2 ?_ | refine Y1 ?_ | refine Y2 ?_))
    cases hq : lkH os (a0, a3) with
    | none =>
      have h1 := h1 hq
      refine pl_S rfl rfl rfl rfl rfl rfl (st_call rfl rfl rfl rfl (own52_ct a0 a3 (fun _ => ⟨by exact rec_auto, ?_⟩) (fun m g => absurd (hq.symm.trans g) (by simp))))
      repeat (first | refine Y0 ?_ | (refine YP ?_; first | refine y1 ?_ | refine y2 ?_ | refine Y1 ?_ | refine Y2 ?_))
      repeat (first | refine Z0 ?_ | (refine ZR ?_; first | refine x1 ?_ | refine x2 ?_ | refine x8 ?_ | refine Z1 ?_ | refine Z2 ?_ | refine x3 fun _ => ?_ | refine x4 fun _ => ?_ | refine x5 fun _ => ?_ | refine Z3 fun _ => ?_ | refine Z4 fun _ => ?_) | refine ZC ?_)
      refine ct_draw (masks := [0, 1, 3, 0, 15]) (plan := [0, 1, 2, 3, 4]) (E := []) (by kernel_rfl) (by kernel_rfl) (by kernel_rfl) (by kernel_rfl) ?_
      repeat (first | refine Y0 ?_ | (refine YP ?_; first | refine y1 ?_ | refine y2 ?_ | refine Y1 ?_ | refine Y2 ?_))
      refine pl_S rfl rfl rfl rfl rfl rfl (st_call rfl rfl rfl rfl (bind53_ct ⟨a0, a1, a2, a3, true, a5⟩ fun w => ⟨by exact rec_auto, ?_⟩))
      repeat (first | refine Y0 ?_ | (refine YP ?_; first | refine y1 ?_ | refine y2 ?_ | refine Y1 ?_ | refine Y2 ?_))
      repeat (first | refine Z0 ?_ | (refine ZR ?_; first | refine x1 ?_ | refine x2 ?_ | refine x8 ?_ | refine Z1 ?_ | refine Z2 ?_ | refine x3 fun _ => ?_ | refine x4 fun _ => ?_ | refine x5 fun _ => ?_ | refine Z3 fun _ => ?_ | refine Z4 fun _ => ?_) | refine ZC ?_)
      exact re_0 rfl (by exact drop_auto) h1
    | some mac =>
      obtain ⟨x, hx, h2⟩ := h2 mac hq
      have hlk := lookE_K (C := cx B0 old) (ev := evN) keyMapK ms ⟨a0, mac⟩ false
      rw [hx] at hlk
      unfold evN en37 at hlk
      refine pl_S rfl rfl rfl rfl rfl rfl (st_call rfl rfl rfl rfl (own52_ct a0 a3 (fun g => absurd (hq.symm.trans g) (by simp)) (fun m g => ⟨by exact rec_auto, ?_⟩)))
      obtain rfl : mac = m := Option.some.inj (hq.symm.trans g)
      repeat (first | refine Y0 ?_ | (refine YP ?_; first | refine y1 ?_ | refine y2 ?_ | refine Y1 ?_ | refine Y2 ?_))
      repeat (first | refine Z0 ?_ | (refine ZR ?_; first | refine x1 ?_ | refine x2 ?_ | refine x8 ?_ | refine Z1 ?_ | refine Z2 ?_ | refine x3 fun _ => ?_ | refine x4 fun _ => ?_ | refine x5 fun _ => ?_ | refine Z3 fun _ => ?_ | refine Z4 fun _ => ?_) | refine ZC ?_)
      (first | refine CodeT.perm ?_ pb | refine RunT.perm ?_ pb | refine PlanT.perm ?_ pb)
      repeat (first | refine Z0 ?_ | (refine ZR ?_; first | refine x1 ?_ | refine x2 ?_ | refine x8 ?_ | refine Z1 ?_ | refine Z2 ?_ | refine x3 fun _ => ?_ | refine x4 fun _ => ?_ | refine x5 fun _ => ?_ | refine Z3 fun _ => ?_ | refine Z4 fun _ => ?_) | refine ZC ?_)
      refine ct_draw (masks := [0, 1, 3, 7, 0, 31, 0, 127]) (plan := [0, 1, 2, 3, 4, 5, 6, 7]) (E := []) (by kernel_rfl) (by kernel_rfl) (by kernel_rfl) (by kernel_rfl) ?_
      repeat (first | refine Y0 ?_ | (refine YP ?_; first | refine y1 ?_ | refine y2 ?_ | refine Y1 ?_ | refine Y2 ?_))
      refine pl_R rfl rfl rfl rfl rfl rfl (rd_lookup rfl rfl hm2 hlk) ?_
      repeat (first | refine Y0 ?_ | (refine YP ?_; first | refine y1 ?_ | refine y2 ?_ | refine Y1 ?_ | refine Y2 ?_))
      refine pl_S rfl rfl rfl rfl rfl rfl (st_alloc (zr rfl) fun b9 => ⟨rec_rd (rd_lookup rfl rfl hm3 hlk) (by exact rec_auto), ?_⟩)
      refine pl_S0 rfl rfl rfl rfl rfl (st_storeW rfl rfl hm0 (sz rfl) rfl rfl rfl sw0 ⟨by exact rec_auto, ?_⟩)
      repeat (first | refine Y0 ?_ | (refine YP ?_; first | refine y1 ?_ | refine y2 ?_ | refine Y1 ?_ | refine Y2 ?_))
      repeat (first | refine Z0 ?_ | (refine ZR ?_; first | refine x1 ?_ | refine x2 ?_ | refine x8 ?_ | refine Z1 ?_ | refine Z2 ?_ | refine x3 fun _ => ?_ | refine x4 fun _ => ?_ | refine x5 fun _ => ?_ | refine Z3 fun _ => ?_ | refine Z4 fun _ => ?_) | refine ZC ?_)
      (first | refine CodeT.perm ?_ pb | refine RunT.perm ?_ pb | refine PlanT.perm ?_ pb)
      refine ct_draw (masks := [0, 1, 3, 7, 0, 0, 63]) (plan := [0, 1, 2, 3, 4, 5, 6]) (E := []) (by kernel_rfl) (by kernel_rfl) (by kernel_rfl) (by kernel_rfl) ?_
      repeat (first | refine Y0 ?_ | (refine YP ?_; first | refine y1 ?_ | refine y2 ?_ | refine Y1 ?_ | refine Y2 ?_))
      refine pl_S0 rfl rfl rfl rfl rfl (st_update rfl rfl rfl (updE_K keyMapK ms c ⟨a0, mac⟩ { x with a3 := 0, a4 := false }) sw2 ⟨by exact rec_auto, ?_⟩)
      repeat (first | refine Y0 ?_ | (refine YP ?_; first | refine y1 ?_ | refine y2 ?_ | refine Y1 ?_ | refine Y2 ?_))
      repeat (first | refine Z0 ?_ | (refine ZR ?_; first | refine x1 ?_ | refine x2 ?_ | refine x8 ?_ | refine Z1 ?_ | refine Z2 ?_ | refine x3 fun _ => ?_ | refine x4 fun _ => ?_ | refine x5 fun _ => ?_ | refine Z3 fun _ => ?_ | refine Z4 fun _ => ?_) | refine ZC ?_)
      refine ct_draw (masks := [0, 1, 3, 0, 15]) (plan := [0, 1, 2, 3, 4]) (E := []) (by kernel_rfl) (by kernel_rfl) (by kernel_rfl) (by kernel_rfl) ?_
      repeat (first | refine Y0 ?_ | (refine YP ?_; first | refine y1 ?_ | refine y2 ?_ | refine Y1 ?_ | refine Y2 ?_))
      refine pl_S rfl rfl rfl rfl rfl rfl (st_call rfl rfl rfl rfl (bind53_ct ⟨a0, a1, a2, a3, true, a5⟩ fun w => ⟨by exact rec_auto, ?_⟩))
      repeat (first | refine Y0 ?_ | (refine YP ?_; first | refine y1 ?_ | refine y2 ?_ | refine Y1 ?_ | refine Y2 ?_))
      repeat (first | refine Z0 ?_ | (refine ZR ?_; first | refine x1 ?_ | refine x2 ?_ | refine x8 ?_ | refine Z1 ?_ | refine Z2 ?_ | refine x3 fun _ => ?_ | refine x4 fun _ => ?_ | refine x5 fun _ => ?_ | refine Z3 fun _ => ?_ | refine Z4 fun _ => ?_) | refine ZC ?_)
      exact re_0 rfl (by exact drop_auto) h2
end
end Go.Proofs.Ytojnbjandkbkmaa.Abs

/- The contract of the program's Learn. -/
namespace Go.Proofs.Ytojnbjandkbkmaa.Abs
open Go
set_option linter.unusedVariables false
section
variable {B0 : Nat} {old : Nat → Option (List Value)} {n : Nat} {H Hs : Hp} {Q : Value → Hp → Prop} {p ob eb co c : Nat} {age : Int} {os : List ((Int × Int) × Int × Nat)} {ms : List (Kk × S37 × Nat)} {L : List S37}
set_option maxRecDepth 10000
set_option maxHeartbeats 8000000
theorem own_if {os1 : List ((Int × Int) × Int × Nat)} {e : S37} (hu : Uq os1) (h4 : e.a4 = true) (q : Int × Int) : lkH (updH os1 co (e.a0, e.a3) e.a2) q = if e.a4 = true ∧ q = (e.a0, e.a3) then some e.a2 else lkH os1 q := by
  rw [lkH_upd hu]
  by_cases hq : q = (e.a0, e.a3)
  · rw [if_pos hq, if_pos ⟨h4, hq⟩]
  · rw [if_neg hq, if_neg (fun g => hq g.2)]
theorem learn15_ct (hI : TabI ms c os L) (e : S37) (hw : e.wf) (fz : Bool) (hL : L.length ≤ 2000)
    (hQ : ∀ ms' c' os' co', TabI ms' c' os' (learnN L e fz).1 → Q (.tuple #[.bool (learnN L e fz).2.1, .int .i64 (learnN L e fz).2.2]) ((p, .row [.map (some ob), .int .i64 age, .map (some eb)] 3 false) :: (ob, .map (mkH ekP evM os') co') :: (eb, .map (mkH ekK evN ms') c') :: H)) :
    CallT (cx B0 old) (acall (cx B0 old) ansP (n + 3)) 15 [.pointer (some ⟨p, 0, none⟩), .agg ⟨en37 e⟩, .bool fz] ((p, .row [.map (some ob), .int .i64 age, .map (some eb)] 3 false) :: (ob, .map (mkH ekP evM os) co) :: (eb, .map (mkH ekK evN ms) c) :: H) Q := by
  refine call_in3 93 rfl Try.func15 rfl rfl ?_
  have hchk : ∀ {H' : Hp} {Q' : Value → Hp → Prop}, Q' (.int .i64 (chkN e)) H' → CallT (cx B0 old) (acall (cx B0 old) ansP (n + 2)) 34 [.agg ⟨en37 e⟩] H' Q' := fun {H' Q'} h => chk34_ct (n := n + 1) e hw h
  have hlk := lookE_K (C := cx B0 old) (ev := evN) keyMapK ms (kOf e) true
  rw [hI.look] at hlk
  have hkE : ekK (kOf e) = .agg ⟨[.int .i64 e.a0, .int .u64 e.a2]⟩ := rfl
  rw [hkE] at hlk
  have hlen : ((mkH ekK evN ms).length : Int) = (L.length : Int) := by simp [mkH, hI.len]
  unfold en37 at hchk ⊢
  repeat (first | refine Z0 ?_ | (refine ZR ?_; first | refine x1 ?_ | refine x2 ?_ | refine x8 ?_ | refine Z1 ?_ | refine Z2 ?_ | refine x3 fun _ => ?_ | refine x4 fun _ => ?_ | refine x5 fun _ => ?_ | refine Z3 fun _ => ?_ | refine Z4 fun _ => ?_) | refine ZC ?_)
  (first | refine CodeT.perm ?_ pb | refine RunT.perm ?_ pb | refine PlanT.perm ?_ pb)
  repeat (first | refine Z0 ?_ | (refine ZR ?_; first | refine x1 ?_ | refine x2 ?_ | refine x8 ?_ | refine Z1 ?_ | refine Z2 ?_ | refine x3 fun _ => ?_ | refine x4 fun _ => ?_ | refine x5 fun _ => ?_ | refine Z3 fun _ => ?_ | refine Z4 fun _ => ?_) | refine ZC ?_)
  refine rt_step rfl rfl rfl (st_call rfl rfl rfl rfl (inv33_ct ?_))
  repeat (first | refine Z0 ?_ | (refine ZR ?_; first | refine x1 ?_ | refine x2 ?_ | refine x8 ?_ | refine Z1 ?_ | refine Z2 ?_ | refine x3 fun _ => ?_ | refine x4 fun _ => ?_ | refine x5 fun _ => ?_ | refine Z3 fun _ => ?_ | refine Z4 fun _ => ?_) | refine ZC ?_)
  refine rt_step rfl rfl rfl (st_call rfl rfl rfl rfl (hchk ?_))
  repeat (first | refine Z0 ?_ | (refine ZR ?_; first | refine x1 ?_ | refine x2 ?_ | refine x8 ?_ | refine Z1 ?_ | refine Z2 ?_ | refine x3 fun _ => ?_ | refine x4 fun _ => ?_ | refine x5 fun _ => ?_ | refine Z3 fun _ => ?_ | refine Z4 fun _ => ?_) | refine ZC ?_)
  refine ct_condT te_ne rfl (fun hc => ?_) (fun hc => ?_)
  · repeat (first | refine Z0 ?_ | (refine ZR ?_; first | refine x1 ?_ | refine x2 ?_ | refine x8 ?_ | refine Z1 ?_ | refine Z2 ?_ | refine x3 fun _ => ?_ | refine x4 fun _ => ?_ | refine x5 fun _ => ?_ | refine Z3 fun _ => ?_ | refine Z4 fun _ => ?_) | refine ZC ?_)
    have hr : learnN L e fz = (L, false, chkN e) := by unfold learnN; rw [if_pos hc]
    rw [hr] at hQ
    exact re_2 rfl rfl rfl (by exact drop_auto) (hQ ms c os co hI)
  have hE : okE e := ⟨hw, hc⟩
  repeat (first | refine Z0 ?_ | (refine ZR ?_; first | refine x1 ?_ | refine x2 ?_ | refine x8 ?_ | refine Z1 ?_ | refine Z2 ?_ | refine x3 fun _ => ?_ | refine x4 fun _ => ?_ | refine x5 fun _ => ?_ | refine Z3 fun _ => ?_ | refine Z4 fun _ => ?_) | refine ZC ?_)
  (first | refine CodeT.perm ?_ pb | refine RunT.perm ?_ pb | refine PlanT.perm ?_ pb)
  repeat (first | refine Z0 ?_ | (refine ZR ?_; first | refine x1 ?_ | refine x2 ?_ | refine x8 ?_ | refine Z1 ?_ | refine Z2 ?_ | refine x3 fun _ => ?_ | refine x4 fun _ => ?_ | refine x5 fun _ => ?_ | refine Z3 fun _ => ?_ | refine Z4 fun _ => ?_) | refine ZC ?_)
  refine ct_draw (masks := [0, 1, 3, 7, 0, 31, 63, 127, 127, 0, 767, 2047]) (plan := [0, 1, 2, 3, 4, 5, 6, 7, 8, 9, 10, 11]) (E := []) (by kernel_rfl) (by kernel_rfl) (by kernel_rfl) (by kernel_rfl) ?_
  repeat (first | refine Y0 ?_ | (refine YP ?_; first | refine y1 ?_ | refine y2 ?_ | refine Y1 ?_ | refine Y2 ?_))
  rename_i b4 b9
  cases hq : findN L (kOf e) with
  | none =>
    rw [hq] at hlk
    simp only [if_true] at hlk
    unfold en37 at hlk
    refine pl_R rfl rfl rfl rfl rfl rfl (rd_lookup rfl rfl hm2 hlk) ?_
    repeat (first | refine Y0 ?_ | (refine YP ?_; first | refine y1 ?_ | refine y2 ?_ | refine Y1 ?_ | refine Y2 ?_))
    refine pl_S rfl rfl rfl rfl rfl rfl (st_alloc (zr rfl) fun b10 => ⟨rec_rd (rd_lookup rfl rfl hm3 hlk) (by exact rec_auto), ?_⟩)
    refine pl_S0 rfl rfl rfl rfl rfl (st_storeW rfl rfl hm0 (sz rfl) rfl rfl rfl sw0 ⟨by exact rec_auto, ?_⟩)
    repeat (first | refine Y0 ?_ | (refine YP ?_; first | refine y1 ?_ | refine y2 ?_ | refine Y1 ?_ | refine Y2 ?_))
    repeat (first | refine Z0 ?_ | (refine ZR ?_; first | refine x1 ?_ | refine x2 ?_ | refine x8 ?_ | refine Z1 ?_ | refine Z2 ?_ | refine x3 fun _ => ?_ | refine x4 fun _ => ?_ | refine x5 fun _ => ?_ | refine Z3 fun _ => ?_ | refine Z4 fun _ => ?_) | refine ZC ?_)
    (first | refine CodeT.perm ?_ pb | refine RunT.perm ?_ pb | refine PlanT.perm ?_ pb)
    repeat (first | refine Z0 ?_ | (refine ZR ?_; first | refine x1 ?_ | refine x2 ?_ | refine x8 ?_ | refine Z1 ?_ | refine Z2 ?_ | refine x3 fun _ => ?_ | refine x4 fun _ => ?_ | refine x5 fun _ => ?_ | refine Z3 fun _ => ?_ | refine Z4 fun _ => ?_) | refine ZC ?_)
    refine rt_r rfl rfl rfl (rd_mapLen rfl hm2 rfl) ?_
    rw [hlen]
    repeat (first | refine Z0 ?_ | (refine ZR ?_; first | refine x1 ?_ | refine x2 ?_ | refine x8 ?_ | refine Z1 ?_ | refine Z2 ?_ | refine x3 fun _ => ?_ | refine x4 fun _ => ?_ | refine x5 fun _ => ?_ | refine Z3 fun _ => ?_ | refine Z4 fun _ => ?_) | refine ZC ?_)
    refine ct_condT te_d rfl (fun hfull => ?_) (fun hfull => ?_)
    · repeat (first | refine Z0 ?_ | (refine ZR ?_; first | refine x1 ?_ | refine x2 ?_ | refine x8 ?_ | refine Z1 ?_ | refine Z2 ?_ | refine x3 fun _ => ?_ | refine x4 fun _ => ?_ | refine x5 fun _ => ?_ | refine Z3 fun _ => ?_ | refine Z4 fun _ => ?_) | refine ZC ?_)
      have hr : learnN L e fz = (L, false, 7) := by unfold learnN; rw [if_neg (fun g => g hc), hq]; dsimp only; rw [if_pos (by omega)]
      rw [hr] at hQ
      exact re_2 rfl rfl rfl (by exact drop_auto) (hQ ms c os co hI)
    have hr : learnN L e fz = (putN L e, false, 0) := by unfold learnN; rw [if_neg (fun g => g hc), hq]; dsimp only; rw [if_neg (by omega)]
    rw [hr] at hQ
    have hX := hE
    repeat (first | refine Z0 ?_ | (refine ZR ?_; first | refine x1 ?_ | refine x2 ?_ | refine x8 ?_ | refine Z1 ?_ | refine Z2 ?_ | refine x3 fun _ => ?_ | refine x4 fun _ => ?_ | refine x5 fun _ => ?_ | refine Z3 fun _ => ?_ | refine Z4 fun _ => ?_) | refine ZC ?_)
    (first | refine CodeT.perm ?_ pb | refine RunT.perm ?_ pb | refine PlanT.perm ?_ pb)
    refine ct_draw (masks := [0, 1, 3, 0, 15]) (plan := [0, 1, 2, 3, 4]) (E := []) (by kernel_rfl) (by kernel_rfl) (by kernel_rfl) (by kernel_rfl) ?_
    repeat (first | refine Y0 ?_ | (refine YP ?_; first | refine y1 ?_ | refine y2 ?_ | refine Y1 ?_ | refine Y2 ?_))
    refine pl_S rfl rfl rfl rfl rfl rfl (st_call rfl rfl rfl rfl (rel35_ct zN fun w => ⟨by exact rec_auto, ?_⟩))
    repeat (first | refine Y0 ?_ | (refine YP ?_; first | refine y1 ?_ | refine y2 ?_ | refine Y1 ?_ | refine Y2 ?_))
    repeat (first | refine Z0 ?_ | (refine ZR ?_; first | refine x1 ?_ | refine x2 ?_ | refine x8 ?_ | refine Z1 ?_ | refine Z2 ?_ | refine x3 fun _ => ?_ | refine x4 fun _ => ?_ | refine x5 fun _ => ?_ | refine Z3 fun _ => ?_ | refine Z4 fun _ => ?_) | refine ZC ?_)
    have hown : OwnR os L (kOf e) := hI.rel_none hq
    have hu := hI.uo
    rw [if_neg (by decide)]
    refine rt_step rfl rfl rfl (st_call rfl rfl rfl rfl (take36_ct e (fun h4 w => ?_) (fun h4 hn w => ?_) (fun h4 mac hm => ?_)))
    · repeat (first | refine Z0 ?_ | (refine ZR ?_; first | refine x1 ?_ | refine x2 ?_ | refine x8 ?_ | refine Z1 ?_ | refine Z2 ?_ | refine x3 fun _ => ?_ | refine x4 fun _ => ?_ | refine x5 fun _ => ?_ | refine Z3 fun _ => ?_ | refine Z4 fun _ => ?_) | refine ZC ?_)
      refine ct_draw (masks := [0, 1, 3, 7, 0, 0, 63]) (plan := [0, 1, 2, 3, 4, 5, 6]) (E := []) (by kernel_rfl) (by kernel_rfl) (by kernel_rfl) (by kernel_rfl) ?_
      repeat (first | refine Y0 ?_ | (refine YP ?_; first | refine y1 ?_ | refine y2 ?_ | refine Y1 ?_ | refine Y2 ?_))
      refine pl_S0 rfl rfl rfl rfl rfl (st_update rfl rfl rfl (updE_K keyMapK ms c (kOf e) e) sw2 ⟨by exact rec_auto, ?_⟩)
      repeat (first | refine Y0 ?_ | (refine YP ?_; first | refine y1 ?_ | refine y2 ?_ | refine Y1 ?_ | refine Y2 ?_))
      repeat (first | refine Z0 ?_ | (refine ZR ?_; first | refine x1 ?_ | refine x2 ?_ | refine x8 ?_ | refine Z1 ?_ | refine Z2 ?_ | refine x3 fun _ => ?_ | refine x4 fun _ => ?_ | refine x5 fun _ => ?_ | refine Z3 fun _ => ?_ | refine Z4 fun _ => ?_) | refine ZC ?_)
      exact re_2 rfl rfl rfl (by exact drop_auto) (hQ _ _ _ _ (hI.put0 hX hown hu hu (fun y _ _ => stN_no h4 y) (fun q => by rw [if_neg (fun g => by rw [h4] at g; cases g.1)])))
    · repeat (first | refine Z0 ?_ | (refine ZR ?_; first | refine x1 ?_ | refine x2 ?_ | refine x8 ?_ | refine Z1 ?_ | refine Z2 ?_ | refine x3 fun _ => ?_ | refine x4 fun _ => ?_ | refine x5 fun _ => ?_ | refine Z3 fun _ => ?_ | refine Z4 fun _ => ?_) | refine ZC ?_)
      refine ct_draw (masks := [0, 1, 3, 7, 0, 0, 63]) (plan := [0, 1, 2, 3, 4, 5, 6]) (E := []) (by kernel_rfl) (by kernel_rfl) (by kernel_rfl) (by kernel_rfl) ?_
      repeat (first | refine Y0 ?_ | (refine YP ?_; first | refine y1 ?_ | refine y2 ?_ | refine Y1 ?_ | refine Y2 ?_))
      refine pl_S0 rfl rfl rfl rfl rfl (st_update rfl rfl rfl (updE_K keyMapK ms c (kOf e) e) sw2 ⟨by exact rec_auto, ?_⟩)
      repeat (first | refine Y0 ?_ | (refine YP ?_; first | refine y1 ?_ | refine y2 ?_ | refine Y1 ?_ | refine Y2 ?_))
      repeat (first | refine Z0 ?_ | (refine ZR ?_; first | refine x1 ?_ | refine x2 ?_ | refine x8 ?_ | refine Z1 ?_ | refine Z2 ?_ | refine x3 fun _ => ?_ | refine x4 fun _ => ?_ | refine x5 fun _ => ?_ | refine Z3 fun _ => ?_ | refine Z4 fun _ => ?_) | refine ZC ?_)
      exact re_2 rfl rfl rfl (by exact drop_auto) (hQ _ _ _ _ (hI.put0 hX hown hu hu.upd (hI.own0 hown hn) (own_if hu h4)))
    · obtain ⟨y, hy, hy2, hT⟩ := hI.put1 (co := co) hX hown hu h4 hm
      refine ⟨y, hy2, fun w => ?_⟩
      repeat (first | refine Z0 ?_ | (refine ZR ?_; first | refine x1 ?_ | refine x2 ?_ | refine x8 ?_ | refine Z1 ?_ | refine Z2 ?_ | refine x3 fun _ => ?_ | refine x4 fun _ => ?_ | refine x5 fun _ => ?_ | refine Z3 fun _ => ?_ | refine Z4 fun _ => ?_) | refine ZC ?_)
      refine ct_draw (masks := [0, 1, 3, 7, 0, 0, 63]) (plan := [0, 1, 2, 3, 4, 5, 6]) (E := []) (by kernel_rfl) (by kernel_rfl) (by kernel_rfl) (by kernel_rfl) ?_
      repeat (first | refine Y0 ?_ | (refine YP ?_; first | refine y1 ?_ | refine y2 ?_ | refine Y1 ?_ | refine Y2 ?_))
      refine pl_S0 rfl rfl rfl rfl rfl (st_update rfl rfl rfl (updE_K keyMapK _ _ (kOf e) e) sw2 ⟨by exact rec_auto, ?_⟩)
      repeat (first | refine Y0 ?_ | (refine YP ?_; first | refine y1 ?_ | refine y2 ?_ | refine Y1 ?_ | refine Y2 ?_))
      repeat (first | refine Z0 ?_ | (refine ZR ?_; first | refine x1 ?_ | refine x2 ?_ | refine x8 ?_ | refine Z1 ?_ | refine Z2 ?_ | refine x3 fun _ => ?_ | refine x4 fun _ => ?_ | refine x5 fun _ => ?_ | refine Z3 fun _ => ?_ | refine Z4 fun _ => ?_) | refine ZC ?_)
      exact re_2 rfl rfl rfl (by exact drop_auto) (hQ _ _ _ _ hT)
  | some o =>
    have hO := hI.val o ((findN_iff hI.srt).1 hq).1
    rw [hq] at hlk
    simp only [if_true] at hlk
    unfold evN en37 at hlk
    refine pl_R rfl rfl rfl rfl rfl rfl (rd_lookup rfl rfl hm2 hlk) ?_
    repeat (first | refine Y0 ?_ | (refine YP ?_; first | refine y1 ?_ | refine y2 ?_ | refine Y1 ?_ | refine Y2 ?_))
    refine pl_S rfl rfl rfl rfl rfl rfl (st_alloc (zr rfl) fun b10 => ⟨rec_rd (rd_lookup rfl rfl hm3 hlk) (by exact rec_auto), ?_⟩)
    refine pl_S0 rfl rfl rfl rfl rfl (st_storeW rfl rfl hm0 (sz rfl) rfl rfl rfl sw0 ⟨by exact rec_auto, ?_⟩)
    repeat (first | refine Y0 ?_ | (refine YP ?_; first | refine y1 ?_ | refine y2 ?_ | refine Y1 ?_ | refine Y2 ?_))
    repeat (first | refine Z0 ?_ | (refine ZR ?_; first | refine x1 ?_ | refine x2 ?_ | refine x8 ?_ | refine Z1 ?_ | refine Z2 ?_ | refine x3 fun _ => ?_ | refine x4 fun _ => ?_ | refine x5 fun _ => ?_ | refine Z3 fun _ => ?_ | refine Z4 fun _ => ?_) | refine ZC ?_)
    (first | refine CodeT.perm ?_ pb | refine RunT.perm ?_ pb | refine PlanT.perm ?_ pb)
    repeat (first | refine Z0 ?_ | (refine ZR ?_; first | refine x1 ?_ | refine x2 ?_ | refine x8 ?_ | refine Z1 ?_ | refine Z2 ?_ | refine x3 fun _ => ?_ | refine x4 fun _ => ?_ | refine x5 fun _ => ?_ | refine Z3 fun _ => ?_ | refine Z4 fun _ => ?_) | refine ZC ?_)
    by_cases hm : o.a1 = e.a1
    · rw [show (o.a1 != e.a1) = false by simp [hm]]
      repeat (first | refine Z0 ?_ | (refine ZR ?_; first | refine x1 ?_ | refine x2 ?_ | refine x8 ?_ | refine Z1 ?_ | refine Z2 ?_ | refine x3 fun _ => ?_ | refine x4 fun _ => ?_ | refine x5 fun _ => ?_ | refine Z3 fun _ => ?_ | refine Z4 fun _ => ?_) | refine ZC ?_)
      (first | refine CodeT.perm ?_ pb | refine RunT.perm ?_ pb | refine PlanT.perm ?_ pb)
      repeat (first | refine Z0 ?_ | (refine ZR ?_; first | refine x1 ?_ | refine x2 ?_ | refine x8 ?_ | refine Z1 ?_ | refine Z2 ?_ | refine x3 fun _ => ?_ | refine x4 fun _ => ?_ | refine x5 fun _ => ?_ | refine Z3 fun _ => ?_ | refine Z4 fun _ => ?_) | refine ZC ?_)
      have hmO := okE.mrg hO hE
      have hr : learnN L e fz = (putN L (mrg o e), false, 0) := by unfold learnN; rw [if_neg (fun g => g hc), hq]; dsimp only; rw [if_neg (fun g => g.1 hm)]; simp [hm]
      unfold mrg at hr hmO
      rw [if_pos hm] at hr hmO
      rw [hr] at hQ
      dsimp only at hQ
      refine ct_condT (te_n te_b) rfl (fun h4e => ?_) (fun h4e => ?_)
      · rw [h4e] at hQ hmO
        simp only [Bool.false_or] at hQ hmO
        rw [if_neg (by decide)] at hQ hmO
        have hX := hmO
        repeat (first | refine Z0 ?_ | (refine ZR ?_; first | refine x1 ?_ | refine x2 ?_ | refine x8 ?_ | refine Z1 ?_ | refine Z2 ?_ | refine x3 fun _ => ?_ | refine x4 fun _ => ?_ | refine x5 fun _ => ?_ | refine Z3 fun _ => ?_ | refine Z4 fun _ => ?_) | refine ZC ?_)
        refine ct_draw (masks := [0, 1, 0, 4, 3, 19, 63, 127]) (plan := [0, 1, 2, 3, 4, 5, 6, 7]) (E := []) (by kernel_rfl) (by kernel_rfl) (by kernel_rfl) (by kernel_rfl) ?_
        repeat (first | refine Y0 ?_ | (refine YP ?_; first | refine y1 ?_ | refine y2 ?_ | refine Y1 ?_ | refine Y2 ?_))
        refine y3 ?_
        repeat (first | refine Y0 ?_ | (refine YP ?_; first | refine y1 ?_ | refine y2 ?_ | refine Y1 ?_ | refine Y2 ?_))
        refine y3 ?_
        repeat (first | refine Y0 ?_ | (refine YP ?_; first | refine y1 ?_ | refine y2 ?_ | refine Y1 ?_ | refine Y2 ?_))
        repeat (first | refine Z0 ?_ | (refine ZR ?_; first | refine x1 ?_ | refine x2 ?_ | refine x8 ?_ | refine Z1 ?_ | refine Z2 ?_ | refine x3 fun _ => ?_ | refine x4 fun _ => ?_ | refine x5 fun _ => ?_ | refine Z3 fun _ => ?_ | refine Z4 fun _ => ?_) | refine ZC ?_)
        refine ct_draw (masks := [0, 1, 3, 0, 15]) (plan := [0, 1, 2, 3, 4]) (E := []) (by kernel_rfl) (by kernel_rfl) (by kernel_rfl) (by kernel_rfl) ?_
        repeat (first | refine Y0 ?_ | (refine YP ?_; first | refine y1 ?_ | refine y2 ?_ | refine Y1 ?_ | refine Y2 ?_))
        refine pl_S rfl rfl rfl rfl rfl rfl (st_call rfl rfl rfl rfl (rel35_ct o fun w => ⟨by exact rec_auto, ?_⟩))
        repeat (first | refine Y0 ?_ | (refine YP ?_; first | refine y1 ?_ | refine y2 ?_ | refine Y1 ?_ | refine Y2 ?_))
        repeat (first | refine Z0 ?_ | (refine ZR ?_; first | refine x1 ?_ | refine x2 ?_ | refine x8 ?_ | refine Z1 ?_ | refine Z2 ?_ | refine x3 fun _ => ?_ | refine x4 fun _ => ?_ | refine x5 fun _ => ?_ | refine Z3 fun _ => ?_ | refine Z4 fun _ => ?_) | refine ZC ?_)
        have hown : OwnR (if o.a4 = true then delH os (o.a0, o.a3) else os) L (kOf e) := by
          cases h4o : o.a4 with
          | true => rw [if_pos rfl]; exact hI.rel_yes hq h4o
          | false => rw [if_neg (by decide)]; exact hI.rel_no hq h4o
        have hu : Uq (if o.a4 = true then delH os (o.a0, o.a3) else os) := by
          split
          · exact hI.uo.del
          · exact hI.uo
        generalize (if o.a4 = true then delH os (o.a0, o.a3) else os) = os1 at *
        refine rt_step rfl rfl rfl (st_call rfl rfl rfl rfl (take36_ct (⟨e.a0, e.a1, e.a2, o.a3, o.a4, if e.a5 > o.a5 then e.a5 else o.a5⟩ : S37) (fun h4 w => ?_) (fun h4 hn w => ?_) (fun h4 mac hm => ?_)))
        · repeat (first | refine Z0 ?_ | (refine ZR ?_; first | refine x1 ?_ | refine x2 ?_ | refine x8 ?_ | refine Z1 ?_ | refine Z2 ?_ | refine x3 fun _ => ?_ | refine x4 fun _ => ?_ | refine x5 fun _ => ?_ | refine Z3 fun _ => ?_ | refine Z4 fun _ => ?_) | refine ZC ?_)
          refine ct_draw (masks := [0, 1, 3, 7, 0, 0, 63]) (plan := [0, 1, 2, 3, 4, 5, 6]) (E := []) (by kernel_rfl) (by kernel_rfl) (by kernel_rfl) (by kernel_rfl) ?_
          repeat (first | refine Y0 ?_ | (refine YP ?_; first | refine y1 ?_ | refine y2 ?_ | refine Y1 ?_ | refine Y2 ?_))
          refine pl_S0 rfl rfl rfl rfl rfl (st_update rfl rfl rfl (updE_K keyMapK ms c (kOf e) (⟨e.a0, e.a1, e.a2, o.a3, o.a4, if e.a5 > o.a5 then e.a5 else o.a5⟩ : S37)) sw2 ⟨by exact rec_auto, ?_⟩)
          repeat (first | refine Y0 ?_ | (refine YP ?_; first | refine y1 ?_ | refine y2 ?_ | refine Y1 ?_ | refine Y2 ?_))
          repeat (first | refine Z0 ?_ | (refine ZR ?_; first | refine x1 ?_ | refine x2 ?_ | refine x8 ?_ | refine Z1 ?_ | refine Z2 ?_ | refine x3 fun _ => ?_ | refine x4 fun _ => ?_ | refine x5 fun _ => ?_ | refine Z3 fun _ => ?_ | refine Z4 fun _ => ?_) | refine ZC ?_)
          exact re_2 rfl rfl rfl (by exact drop_auto) (hQ _ _ _ _ (hI.put0 hX hown hu hu (fun y _ _ => stN_no h4 y) (fun q => by rw [if_neg (fun g => by rw [h4] at g; cases g.1)])))
        · repeat (first | refine Z0 ?_ | (refine ZR ?_; first | refine x1 ?_ | refine x2 ?_ | refine x8 ?_ | refine Z1 ?_ | refine Z2 ?_ | refine x3 fun _ => ?_ | refine x4 fun _ => ?_ | refine x5 fun _ => ?_ | refine Z3 fun _ => ?_ | refine Z4 fun _ => ?_) | refine ZC ?_)
          refine ct_draw (masks := [0, 1, 3, 7, 0, 0, 63]) (plan := [0, 1, 2, 3, 4, 5, 6]) (E := []) (by kernel_rfl) (by kernel_rfl) (by kernel_rfl) (by kernel_rfl) ?_
          repeat (first | refine Y0 ?_ | (refine YP ?_; first | refine y1 ?_ | refine y2 ?_ | refine Y1 ?_ | refine Y2 ?_))
          refine pl_S0 rfl rfl rfl rfl rfl (st_update rfl rfl rfl (updE_K keyMapK ms c (kOf e) (⟨e.a0, e.a1, e.a2, o.a3, o.a4, if e.a5 > o.a5 then e.a5 else o.a5⟩ : S37)) sw2 ⟨by exact rec_auto, ?_⟩)
          repeat (first | refine Y0 ?_ | (refine YP ?_; first | refine y1 ?_ | refine y2 ?_ | refine Y1 ?_ | refine Y2 ?_))
          repeat (first | refine Z0 ?_ | (refine ZR ?_; first | refine x1 ?_ | refine x2 ?_ | refine x8 ?_ | refine Z1 ?_ | refine Z2 ?_ | refine x3 fun _ => ?_ | refine x4 fun _ => ?_ | refine x5 fun _ => ?_ | refine Z3 fun _ => ?_ | refine Z4 fun _ => ?_) | refine ZC ?_)
          exact re_2 rfl rfl rfl (by exact drop_auto) (hQ _ _ _ _ (hI.put0 hX hown hu hu.upd (hI.own0 hown hn) (own_if hu h4)))
        · obtain ⟨y, hy, hy2, hT⟩ := hI.put1 (co := co) hX hown hu h4 hm
          refine ⟨y, hy2, fun w => ?_⟩
          repeat (first | refine Z0 ?_ | (refine ZR ?_; first | refine x1 ?_ | refine x2 ?_ | refine x8 ?_ | refine Z1 ?_ | refine Z2 ?_ | refine x3 fun _ => ?_ | refine x4 fun _ => ?_ | refine x5 fun _ => ?_ | refine Z3 fun _ => ?_ | refine Z4 fun _ => ?_) | refine ZC ?_)
          refine ct_draw (masks := [0, 1, 3, 7, 0, 0, 63]) (plan := [0, 1, 2, 3, 4, 5, 6]) (E := []) (by kernel_rfl) (by kernel_rfl) (by kernel_rfl) (by kernel_rfl) ?_
          repeat (first | refine Y0 ?_ | (refine YP ?_; first | refine y1 ?_ | refine y2 ?_ | refine Y1 ?_ | refine Y2 ?_))
          refine pl_S0 rfl rfl rfl rfl rfl (st_update rfl rfl rfl (updE_K keyMapK _ _ (kOf e) (⟨e.a0, e.a1, e.a2, o.a3, o.a4, if e.a5 > o.a5 then e.a5 else o.a5⟩ : S37)) sw2 ⟨by exact rec_auto, ?_⟩)
          repeat (first | refine Y0 ?_ | (refine YP ?_; first | refine y1 ?_ | refine y2 ?_ | refine Y1 ?_ | refine Y2 ?_))
          repeat (first | refine Z0 ?_ | (refine ZR ?_; first | refine x1 ?_ | refine x2 ?_ | refine x8 ?_ | refine Z1 ?_ | refine Z2 ?_ | refine x3 fun _ => ?_ | refine x4 fun _ => ?_ | refine x5 fun _ => ?_ | refine Z3 fun _ => ?_ | refine Z4 fun _ => ?_) | refine ZC ?_)
          exact re_2 rfl rfl rfl (by exact drop_auto) (hQ _ _ _ _ hT)
      · have e4 : (e.a4 || o.a4) = e.a4 := by rw [h4e]; rfl
        rw [if_pos h4e, e4] at hQ hmO
        have hX := hmO
        repeat (first | refine Z0 ?_ | (refine ZR ?_; first | refine x1 ?_ | refine x2 ?_ | refine x8 ?_ | refine Z1 ?_ | refine Z2 ?_ | refine x3 fun _ => ?_ | refine x4 fun _ => ?_ | refine x5 fun _ => ?_ | refine Z3 fun _ => ?_ | refine Z4 fun _ => ?_) | refine ZC ?_)
        refine ct_draw (masks := [0, 1, 3, 0, 15]) (plan := [0, 1, 2, 3, 4]) (E := []) (by kernel_rfl) (by kernel_rfl) (by kernel_rfl) (by kernel_rfl) ?_
        repeat (first | refine Y0 ?_ | (refine YP ?_; first | refine y1 ?_ | refine y2 ?_ | refine Y1 ?_ | refine Y2 ?_))
        refine pl_S rfl rfl rfl rfl rfl rfl (st_call rfl rfl rfl rfl (rel35_ct o fun w => ⟨by exact rec_auto, ?_⟩))
        repeat (first | refine Y0 ?_ | (refine YP ?_; first | refine y1 ?_ | refine y2 ?_ | refine Y1 ?_ | refine Y2 ?_))
        repeat (first | refine Z0 ?_ | (refine ZR ?_; first | refine x1 ?_ | refine x2 ?_ | refine x8 ?_ | refine Z1 ?_ | refine Z2 ?_ | refine x3 fun _ => ?_ | refine x4 fun _ => ?_ | refine x5 fun _ => ?_ | refine Z3 fun _ => ?_ | refine Z4 fun _ => ?_) | refine ZC ?_)
        have hown : OwnR (if o.a4 = true then delH os (o.a0, o.a3) else os) L (kOf e) := by
          cases h4o : o.a4 with
          | true => rw [if_pos rfl]; exact hI.rel_yes hq h4o
          | false => rw [if_neg (by decide)]; exact hI.rel_no hq h4o
        have hu : Uq (if o.a4 = true then delH os (o.a0, o.a3) else os) := by
          split
          · exact hI.uo.del
          · exact hI.uo
        generalize (if o.a4 = true then delH os (o.a0, o.a3) else os) = os1 at *
        refine rt_step rfl rfl rfl (st_call rfl rfl rfl rfl (take36_ct (⟨e.a0, e.a1, e.a2, e.a3, e.a4, if e.a5 > o.a5 then e.a5 else o.a5⟩ : S37) (fun h4 w => ?_) (fun h4 hn w => ?_) (fun h4 mac hm => ?_)))
        · repeat (first | refine Z0 ?_ | (refine ZR ?_; first | refine x1 ?_ | refine x2 ?_ | refine x8 ?_ | refine Z1 ?_ | refine Z2 ?_ | refine x3 fun _ => ?_ | refine x4 fun _ => ?_ | refine x5 fun _ => ?_ | refine Z3 fun _ => ?_ | refine Z4 fun _ => ?_) | refine ZC ?_)
          refine ct_draw (masks := [0, 1, 3, 7, 0, 0, 63]) (plan := [0, 1, 2, 3, 4, 5, 6]) (E := []) (by kernel_rfl) (by kernel_rfl) (by kernel_rfl) (by kernel_rfl) ?_
          repeat (first | refine Y0 ?_ | (refine YP ?_; first | refine y1 ?_ | refine y2 ?_ | refine Y1 ?_ | refine Y2 ?_))
          refine pl_S0 rfl rfl rfl rfl rfl (st_update rfl rfl rfl (updE_K keyMapK ms c (kOf e) (⟨e.a0, e.a1, e.a2, e.a3, e.a4, if e.a5 > o.a5 then e.a5 else o.a5⟩ : S37)) sw2 ⟨by exact rec_auto, ?_⟩)
          repeat (first | refine Y0 ?_ | (refine YP ?_; first | refine y1 ?_ | refine y2 ?_ | refine Y1 ?_ | refine Y2 ?_))
          repeat (first | refine Z0 ?_ | (refine ZR ?_; first | refine x1 ?_ | refine x2 ?_ | refine x8 ?_ | refine Z1 ?_ | refine Z2 ?_ | refine x3 fun _ => ?_ | refine x4 fun _ => ?_ | refine x5 fun _ => ?_ | refine Z3 fun _ => ?_ | refine Z4 fun _ => ?_) | refine ZC ?_)
          exact re_2 rfl rfl rfl (by exact drop_auto) (hQ _ _ _ _ (hI.put0 hX hown hu hu (fun y _ _ => stN_no h4 y) (fun q => by rw [if_neg (fun g => by rw [h4] at g; cases g.1)])))
        · repeat (first | refine Z0 ?_ | (refine ZR ?_; first | refine x1 ?_ | refine x2 ?_ | refine x8 ?_ | refine Z1 ?_ | refine Z2 ?_ | refine x3 fun _ => ?_ | refine x4 fun _ => ?_ | refine x5 fun _ => ?_ | refine Z3 fun _ => ?_ | refine Z4 fun _ => ?_) | refine ZC ?_)
          refine ct_draw (masks := [0, 1, 3, 7, 0, 0, 63]) (plan := [0, 1, 2, 3, 4, 5, 6]) (E := []) (by kernel_rfl) (by kernel_rfl) (by kernel_rfl) (by kernel_rfl) ?_
          repeat (first | refine Y0 ?_ | (refine YP ?_; first | refine y1 ?_ | refine y2 ?_ | refine Y1 ?_ | refine Y2 ?_))
          refine pl_S0 rfl rfl rfl rfl rfl (st_update rfl rfl rfl (updE_K keyMapK ms c (kOf e) (⟨e.a0, e.a1, e.a2, e.a3, e.a4, if e.a5 > o.a5 then e.a5 else o.a5⟩ : S37)) sw2 ⟨by exact rec_auto, ?_⟩)
          repeat (first | refine Y0 ?_ | (refine YP ?_; first | refine y1 ?_ | refine y2 ?_ | refine Y1 ?_ | refine Y2 ?_))
          repeat (first | refine Z0 ?_ | (refine ZR ?_; first | refine x1 ?_ | refine x2 ?_ | refine x8 ?_ | refine Z1 ?_ | refine Z2 ?_ | refine x3 fun _ => ?_ | refine x4 fun _ => ?_ | refine x5 fun _ => ?_ | refine Z3 fun _ => ?_ | refine Z4 fun _ => ?_) | refine ZC ?_)
          exact re_2 rfl rfl rfl (by exact drop_auto) (hQ _ _ _ _ (hI.put0 hX hown hu hu.upd (hI.own0 hown hn) (own_if hu h4)))
        · obtain ⟨y, hy, hy2, hT⟩ := hI.put1 (co := co) hX hown hu h4 hm
          refine ⟨y, hy2, fun w => ?_⟩
          repeat (first | refine Z0 ?_ | (refine ZR ?_; first | refine x1 ?_ | refine x2 ?_ | refine x8 ?_ | refine Z1 ?_ | refine Z2 ?_ | refine x3 fun _ => ?_ | refine x4 fun _ => ?_ | refine x5 fun _ => ?_ | refine Z3 fun _ => ?_ | refine Z4 fun _ => ?_) | refine ZC ?_)
          refine ct_draw (masks := [0, 1, 3, 7, 0, 0, 63]) (plan := [0, 1, 2, 3, 4, 5, 6]) (E := []) (by kernel_rfl) (by kernel_rfl) (by kernel_rfl) (by kernel_rfl) ?_
          repeat (first | refine Y0 ?_ | (refine YP ?_; first | refine y1 ?_ | refine y2 ?_ | refine Y1 ?_ | refine Y2 ?_))
          refine pl_S0 rfl rfl rfl rfl rfl (st_update rfl rfl rfl (updE_K keyMapK _ _ (kOf e) (⟨e.a0, e.a1, e.a2, e.a3, e.a4, if e.a5 > o.a5 then e.a5 else o.a5⟩ : S37)) sw2 ⟨by exact rec_auto, ?_⟩)
          repeat (first | refine Y0 ?_ | (refine YP ?_; first | refine y1 ?_ | refine y2 ?_ | refine Y1 ?_ | refine Y2 ?_))
          repeat (first | refine Z0 ?_ | (refine ZR ?_; first | refine x1 ?_ | refine x2 ?_ | refine x8 ?_ | refine Z1 ?_ | refine Z2 ?_ | refine x3 fun _ => ?_ | refine x4 fun _ => ?_ | refine x5 fun _ => ?_ | refine Z3 fun _ => ?_ | refine Z4 fun _ => ?_) | refine ZC ?_)
          exact re_2 rfl rfl rfl (by exact drop_auto) (hQ _ _ _ _ hT)
    · rw [show (o.a1 != e.a1) = true by simp [hm]]
      cases fz with
      | true =>
        repeat (first | refine Z0 ?_ | (refine ZR ?_; first | refine x1 ?_ | refine x2 ?_ | refine x8 ?_ | refine Z1 ?_ | refine Z2 ?_ | refine x3 fun _ => ?_ | refine x4 fun _ => ?_ | refine x5 fun _ => ?_ | refine Z3 fun _ => ?_ | refine Z4 fun _ => ?_) | refine ZC ?_)
        have hr : learnN L e true = (L, false, 9) := by unfold learnN; rw [if_neg (fun g => g hc), hq]; dsimp only; rw [if_pos ⟨hm, rfl⟩]
        rw [hr] at hQ
        exact re_2 rfl rfl rfl (by exact drop_auto) (hQ ms c os co hI)
      | false =>
        have hr : learnN L e false = (putN L e, true, 0) := by unfold learnN; rw [if_neg (fun g => g hc), hq]; dsimp only; rw [if_neg (fun g => by cases g.2)]; unfold mrg; rw [if_neg hm]; simp [hm]
        rw [hr] at hQ
        have hX := hE
        repeat (first | refine Z0 ?_ | (refine ZR ?_; first | refine x1 ?_ | refine x2 ?_ | refine x8 ?_ | refine Z1 ?_ | refine Z2 ?_ | refine x3 fun _ => ?_ | refine x4 fun _ => ?_ | refine x5 fun _ => ?_ | refine Z3 fun _ => ?_ | refine Z4 fun _ => ?_) | refine ZC ?_)
        (first | refine CodeT.perm ?_ pb | refine RunT.perm ?_ pb | refine PlanT.perm ?_ pb)
        repeat (first | refine Z0 ?_ | (refine ZR ?_; first | refine x1 ?_ | refine x2 ?_ | refine x8 ?_ | refine Z1 ?_ | refine Z2 ?_ | refine x3 fun _ => ?_ | refine x4 fun _ => ?_ | refine x5 fun _ => ?_ | refine Z3 fun _ => ?_ | refine Z4 fun _ => ?_) | refine ZC ?_)
        refine ct_draw (masks := [0, 1, 3, 0, 15]) (plan := [0, 1, 2, 3, 4]) (E := []) (by kernel_rfl) (by kernel_rfl) (by kernel_rfl) (by kernel_rfl) ?_
        repeat (first | refine Y0 ?_ | (refine YP ?_; first | refine y1 ?_ | refine y2 ?_ | refine Y1 ?_ | refine Y2 ?_))
        refine pl_S rfl rfl rfl rfl rfl rfl (st_call rfl rfl rfl rfl (rel35_ct o fun w => ⟨by exact rec_auto, ?_⟩))
        repeat (first | refine Y0 ?_ | (refine YP ?_; first | refine y1 ?_ | refine y2 ?_ | refine Y1 ?_ | refine Y2 ?_))
        repeat (first | refine Z0 ?_ | (refine ZR ?_; first | refine x1 ?_ | refine x2 ?_ | refine x8 ?_ | refine Z1 ?_ | refine Z2 ?_ | refine x3 fun _ => ?_ | refine x4 fun _ => ?_ | refine x5 fun _ => ?_ | refine Z3 fun _ => ?_ | refine Z4 fun _ => ?_) | refine ZC ?_)
        have hown : OwnR (if o.a4 = true then delH os (o.a0, o.a3) else os) L (kOf e) := by
          cases h4o : o.a4 with
          | true => rw [if_pos rfl]; exact hI.rel_yes hq h4o
          | false => rw [if_neg (by decide)]; exact hI.rel_no hq h4o
        have hu : Uq (if o.a4 = true then delH os (o.a0, o.a3) else os) := by
          split
          · exact hI.uo.del
          · exact hI.uo
        generalize (if o.a4 = true then delH os (o.a0, o.a3) else os) = os1 at *
        refine rt_step rfl rfl rfl (st_call rfl rfl rfl rfl (take36_ct e (fun h4 w => ?_) (fun h4 hn w => ?_) (fun h4 mac hm => ?_)))
        · repeat (first | refine Z0 ?_ | (refine ZR ?_; first | refine x1 ?_ | refine x2 ?_ | refine x8 ?_ | refine Z1 ?_ | refine Z2 ?_ | refine x3 fun _ => ?_ | refine x4 fun _ => ?_ | refine x5 fun _ => ?_ | refine Z3 fun _ => ?_ | refine Z4 fun _ => ?_) | refine ZC ?_)
          refine ct_draw (masks := [0, 1, 3, 7, 0, 0, 63]) (plan := [0, 1, 2, 3, 4, 5, 6]) (E := []) (by kernel_rfl) (by kernel_rfl) (by kernel_rfl) (by kernel_rfl) ?_
          repeat (first | refine Y0 ?_ | (refine YP ?_; first | refine y1 ?_ | refine y2 ?_ | refine Y1 ?_ | refine Y2 ?_))
          refine pl_S0 rfl rfl rfl rfl rfl (st_update rfl rfl rfl (updE_K keyMapK ms c (kOf e) e) sw2 ⟨by exact rec_auto, ?_⟩)
          repeat (first | refine Y0 ?_ | (refine YP ?_; first | refine y1 ?_ | refine y2 ?_ | refine Y1 ?_ | refine Y2 ?_))
          repeat (first | refine Z0 ?_ | (refine ZR ?_; first | refine x1 ?_ | refine x2 ?_ | refine x8 ?_ | refine Z1 ?_ | refine Z2 ?_ | refine x3 fun _ => ?_ | refine x4 fun _ => ?_ | refine x5 fun _ => ?_ | refine Z3 fun _ => ?_ | refine Z4 fun _ => ?_) | refine ZC ?_)
          exact re_2 rfl rfl rfl (by exact drop_auto) (hQ _ _ _ _ (hI.put0 hX hown hu hu (fun y _ _ => stN_no h4 y) (fun q => by rw [if_neg (fun g => by rw [h4] at g; cases g.1)])))
        · repeat (first | refine Z0 ?_ | (refine ZR ?_; first | refine x1 ?_ | refine x2 ?_ | refine x8 ?_ | refine Z1 ?_ | refine Z2 ?_ | refine x3 fun _ => ?_ | refine x4 fun _ => ?_ | refine x5 fun _ => ?_ | refine Z3 fun _ => ?_ | refine Z4 fun _ => ?_) | refine ZC ?_)
          refine ct_draw (masks := [0, 1, 3, 7, 0, 0, 63]) (plan := [0, 1, 2, 3, 4, 5, 6]) (E := []) (by kernel_rfl) (by kernel_rfl) (by kernel_rfl) (by kernel_rfl) ?_
          repeat (first | refine Y0 ?_ | (refine YP ?_; first | refine y1 ?_ | refine y2 ?_ | refine Y1 ?_ | refine Y2 ?_))
          refine pl_S0 rfl rfl rfl rfl rfl (st_update rfl rfl rfl (updE_K keyMapK ms c (kOf e) e) sw2 ⟨by exact rec_auto, ?_⟩)
          repeat (first | refine Y0 ?_ | (refine YP ?_; first | refine y1 ?_ | refine y2 ?_ | refine Y1 ?_ | refine Y2 ?_))
          repeat (first | refine Z0 ?_ | (refine ZR ?_; first | refine x1 ?_ | refine x2 ?_ | refine x8 ?_ | refine Z1 ?_ | refine Z2 ?_ | refine x3 fun _ => ?_ | refine x4 fun _ => ?_ | refine x5 fun _ => ?_ | refine Z3 fun _ => ?_ | refine Z4 fun _ => ?_) | refine ZC ?_)
          exact re_2 rfl rfl rfl (by exact drop_auto) (hQ _ _ _ _ (hI.put0 hX hown hu hu.upd (hI.own0 hown hn) (own_if hu h4)))
        · obtain ⟨y, hy, hy2, hT⟩ := hI.put1 (co := co) hX hown hu h4 hm
          refine ⟨y, hy2, fun w => ?_⟩
          repeat (first | refine Z0 ?_ | (refine ZR ?_; first | refine x1 ?_ | refine x2 ?_ | refine x8 ?_ | refine Z1 ?_ | refine Z2 ?_ | refine x3 fun _ => ?_ | refine x4 fun _ => ?_ | refine x5 fun _ => ?_ | refine Z3 fun _ => ?_ | refine Z4 fun _ => ?_) | refine ZC ?_)
          refine ct_draw (masks := [0, 1, 3, 7, 0, 0, 63]) (plan := [0, 1, 2, 3, 4, 5, 6]) (E := []) (by kernel_rfl) (by kernel_rfl) (by kernel_rfl) (by kernel_rfl) ?_
          repeat (first | refine Y0 ?_ | (refine YP ?_; first | refine y1 ?_ | refine y2 ?_ | refine Y1 ?_ | refine Y2 ?_))
          refine pl_S0 rfl rfl rfl rfl rfl (st_update rfl rfl rfl (updE_K keyMapK _ _ (kOf e) e) sw2 ⟨by exact rec_auto, ?_⟩)
          repeat (first | refine Y0 ?_ | (refine YP ?_; first | refine y1 ?_ | refine y2 ?_ | refine Y1 ?_ | refine Y2 ?_))
          repeat (first | refine Z0 ?_ | (refine ZR ?_; first | refine x1 ?_ | refine x2 ?_ | refine x8 ?_ | refine Z1 ?_ | refine Z2 ?_ | refine x3 fun _ => ?_ | refine x4 fun _ => ?_ | refine x5 fun _ => ?_ | refine Z3 fun _ => ?_ | refine Z4 fun _ => ?_) | refine ZC ?_)
          exact re_2 rfl rfl rfl (by exact drop_auto) (hQ _ _ _ _ hT)
end
end Go.Proofs.Ytojnbjandkbkmaa.Abs
