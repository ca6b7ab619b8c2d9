/- Places, their ranks, sorted lists of routes: plain Lean. -/
import Derived.Test.YtphadapcafibpaaGreatYa
import Derived.Test.YtphadapcafibpaaGreatYb
import Derived.Test.YtphadapcafibpaaGreatYg
namespace Go.Proofs.YtphadapcafibpaaGreat.Abs
open Go
set_option linter.unusedVariables false
instance : DecidableEq S60 := fun x y => if h : leafsEq (en60 x) (en60 y) = true then .isTrue (leaf60_eq h) else .isFalse fun e => h (by rw [e]; exact leaf60 y)
/-- Where a route is stored: the key of its NLRI, and its peer. -/
structure Pk where
  k : S60
  peer : Int
theorem Pk.ext' {a b : Pk} (h1 : a.k = b.k) (h2 : a.peer = b.peer) : a = b := by cases a; cases b; simp only at h1 h2; subst h1; subst h2; rfl
instance : DecidableEq Pk := fun a b => if h : a.k = b.k ∧ a.peer = b.peer then .isTrue (Pk.ext' h.1 h.2) else .isFalse fun e => h ⟨by rw [e], by rw [e]⟩
def enP (p : Pk) : List Value := [.int .i64 p.k.a0, .int .u64 p.k.a1, .int .u8 p.k.a2, .int .u8 p.k.a3, .int .u8 p.k.a4, .int .u8 p.k.a5, .int .u8 p.k.a6, .int .u8 p.k.a7, .int .u8 p.k.a8, .int .u8 p.k.a9, .int .u8 p.k.a10, .int .u8 p.k.a11, .int .u32 p.k.a12, .int .u64 p.k.a13, .int .u32 p.k.a14, .bool p.k.a15, .int .u32 p.k.a16, .int .i64 p.k.a17, .int .u32 p.k.a18, .int .u32 p.k.a19, .int .u32 p.k.a20, .int .u32 p.peer]
theorem enP_len (x : Pk) : (enP x).length = 22 := rfl
theorem enP_one (x : Pk) : (enP x).all Value.oneCell' = true := rfl
/-! ### Ranks -/
/-- Numbers as the digits of one. -/
def nm (a : Int) : List Int → Int
  | [] => a
  | x :: l => nm (a * 340282366920938463463374607431768211456 + x) l
def Dig (l : List Int) : Prop := ∀ x ∈ l, -18446744073709551616 ≤ x ∧ x ≤ 18446744073709551616
theorem Dig.cons {a : Int} {l : List Int} (h : Dig (a :: l)) : (-18446744073709551616 ≤ a ∧ a ≤ 18446744073709551616) ∧ Dig l := ⟨h a (List.mem_cons_self ..), fun x hx => h x (List.mem_cons_of_mem _ hx)⟩
theorem nm_lt : ∀ {l m : List Int} {a b : Int}, l.length = m.length → Dig l → Dig m → a < b → nm a l < nm b m
  | [], [], a, b, _, _, _, h => h
  | [], _ :: _, _, _, h, _, _, _ => by simp at h
  | _ :: _, [], _, _, h, _, _, _ => by simp at h
  | x :: l, y :: m, a, b, h, h1, h2, hab => by
    unfold nm
    obtain ⟨g1, g2⟩ := h1.cons
    obtain ⟨g3, g4⟩ := h2.cons
    exact nm_lt (by simpa using h) g2 g4 (by omega)
theorem nm_lx : ∀ {l m : List Int} {a : Int}, l.length = m.length → Dig l → Dig m → (nm a l < nm a m ↔ lx l m < 0)
  | [], [], a, _, _, _ => by simp [nm, lx]
  | [], _ :: _, _, h, _, _ => by simp at h
  | _ :: _, [], _, h, _, _ => by simp at h
  | x :: l, y :: m, a, h, h1, h2 => by
    have hl : l.length = m.length := by simpa using h
    obtain ⟨g1, g2⟩ := h1.cons
    obtain ⟨g3, g4⟩ := h2.cons
    unfold nm lx
    by_cases e : x = y
    · subst e
      rw [if_pos (sgn_self x)]
      exact nm_lx hl g2 g4
    · rw [if_neg fun h => e (sgn_zero.1 h)]
      by_cases hlt : x < y
      · have := nm_lt (a := a * 340282366920938463463374607431768211456 + x) (b := a * 340282366920938463463374607431768211456 + y) hl g2 g4 (by omega)
        have hs : sgn x y = -1 := by unfold sgn; rw [if_pos hlt]
        rw [hs]
        exact ⟨fun _ => by decide, fun _ => this⟩
      · have := nm_lt (a := a * 340282366920938463463374607431768211456 + y) (b := a * 340282366920938463463374607431768211456 + x) hl.symm g4 g2 (by omega)
        have hs : sgn x y = 1 := by unfold sgn; rw [if_neg hlt, if_pos (by omega)]
        rw [hs]
        exact ⟨fun h => by omega, fun h => absurd h (by decide)⟩
theorem nm_eq {l m : List Int} {a : Int} (h : l.length = m.length) (h1 : Dig l) (h2 : Dig m) (e : nm a l = nm a m) : l = m := by
  refine (lx_zero h).1 ?_
  have g1 := (nm_lx (a := a) h h1 h2)
  have g2 := (nm_lx (a := a) h.symm h2 h1)
  rw [lx_neg l m] at g2
  have : ¬ lx l m < 0 := fun h => by have := g1.2 h; omega
  have : ¬ - lx l m < 0 := fun h => by have := g2.2 h; omega
  omega
/-- The rank of a key. -/
def rkS (x : S60) : Int := nm 0 (kv x)
def okS (x : S60) : Prop := x.wf ∧ keyS x = x
theorem dig_kv {x : S60} (h : x.wf) : Dig (kv x) := by
  unfold S60.wf at h
  intro y hy
  have hb : 0 ≤ b2i x.a15 ∧ b2i x.a15 ≤ 1 := by unfold b2i; split <;> omega
  simp only [kv, esL, List.cons_append, List.nil_append, List.mem_cons, List.not_mem_nil, or_false] at hy
  rcases hy with rfl | rfl | rfl | rfl | rfl | rfl | rfl | rfl | rfl | rfl | rfl | rfl | rfl | rfl | rfl | rfl | rfl | rfl | rfl <;> omega
def pvs (p : Pk) : List Int := kv p.k ++ [p.peer]
def rkP (p : Pk) : Int := nm 0 (pvs p)
def okP (p : Pk) : Prop := okS p.k ∧ (0 ≤ p.peer ∧ p.peer ≤ 4294967295)
theorem dig_p {p : Pk} (h : okP p) : Dig (pvs p) := fun y hy => by
  rcases List.mem_append.1 hy with hy | hy
  · exact dig_kv h.1.1 y hy
  · rw [List.mem_singleton.1 hy]; have := h.2; omega
theorem pvs_len (p : Pk) : (pvs p).length = 20 := rfl
theorem kv_eq {x y : S60} (hx : keyS x = x) (hy : keyS y = y) (e : kv x = kv y) : x = y :=
  kv_inj e (by rw [← hx, ← hy, (keyS_lab x).1, (keyS_lab y).1]) (by rw [← hx, ← hy, (keyS_lab x).2, (keyS_lab y).2])
theorem rkS_inj {a b : S60} (ha : okS a) (hb : okS b) (e : rkS a = rkS b) : a = b := kv_eq ha.2 hb.2 (nm_eq (by rw [kv_len, kv_len]) (dig_kv ha.1) (dig_kv hb.1) e)
theorem rkP_inj {a b : Pk} (ha : okP a) (hb : okP b) (e : rkP a = rkP b) : a = b := by
  have h := nm_eq (by rw [pvs_len, pvs_len]) (dig_p ha) (dig_p hb) e
  obtain ⟨h1, h2⟩ := List.append_inj h (by rw [kv_len, kv_len])
  exact Pk.ext' (kv_eq ha.1.2 hb.1.2 h1) (List.cons.inj h2).1
theorem nlC_ok {a b : S60} (ha : keyS a = a) (hb : keyS b = b) : nlC a b = lx (kv a) (kv b) := by unfold nlC; rw [ha, hb]
theorem rkS_lt {a b : S60} (ha : okS a) (hb : okS b) : nlC a b < 0 ↔ rkS a < rkS b := by rw [nlC_ok ha.2 hb.2]; exact (nm_lx (by rw [kv_len, kv_len]) (dig_kv ha.1) (dig_kv hb.1)).symm
theorem rkP_lt {a b : Pk} (ha : okP a) (hb : okP b) : (if nlC a.k b.k = 0 then sgn a.peer b.peer else nlC a.k b.k) < 0 ↔ rkP a < rkP b := by
  have h : lx (pvs a) (pvs b) = if nlC a.k b.k = 0 then sgn a.peer b.peer else nlC a.k b.k := by
    unfold pvs
    rw [lx_app _ _ (by rw [kv_len, kv_len]), nlC_ok ha.1.2 hb.1.2]
    congr 1
    simp only [lx]
    split
    · rename_i h; exact h.symm
    · rfl
  rw [← h]
  exact (nm_lx (by rw [pvs_len, pvs_len]) (dig_p ha) (dig_p hb)).symm
/-! ### Routes in a rib -/
/-- Why attributes are not valid. -/
def atForm (a : RtA) : Prop := (a.hm = false ∧ a.med ≠ 0) ∨ (a.hp = false ∧ a.pref ≠ 0) ∨ (a.hor = false ∧ a.orig ≠ 0)
def tuForm (a : RtA) : Prop := (a.t0 = 0 ∧ ¬ (a.t1 = 0 ∧ a.t2 = 0 ∧ a.t3 = 0)) ∨ (a.t0 = 6 ∧ a.t3 ≠ 0)
instance (a : RtA) : Decidable (atForm a) := inferInstanceAs (Decidable (_ ∨ _))
instance (a : RtA) : Decidable (tuForm a) := inferInstanceAs (Decidable (_ ∨ _))
def atCk (a : RtA) : Int := if a.o < 0 ∨ a.o > 2 then 2 else if a.path.length > 32 ∨ a.clus.length > 16 ∨ a.comms.length > 64 then 5 else if atForm a then 3 else if a.t0 ≠ 0 ∧ a.t0 ≠ 3 ∧ a.t0 ≠ 6 then 6 else if a.t1 > 16777215 then 2 else if tuForm a then 3 else 0
def rtCk (r : Rt) : Int := if nlCk r.n ≠ 0 then nlCk r.n else atCk r.a
def plc (r : Rt) : Pk := ⟨keyS r.n, r.peer⟩
structure okR (r : Rt) : Prop where
  wf : r.n.wf
  peer : 0 ≤ r.peer ∧ r.peer ≤ 4294967295
  ck : rtCk r = 0
theorem okR.pl {r : Rt} (h : okR r) : okP (plc r) := ⟨⟨keyS_wf h.wf, keyS_key r.n⟩, h.peer⟩
theorem okR.at {r : Rt} (h : okR r) : atCk r.a = 0 := by
  have := h.ck
  unfold rtCk at this
  split at this
  · rename_i g; exact absurd this g
  · exact this
theorem okR.len {r : Rt} (h : okR r) : r.a.path.length ≤ 32 ∧ r.a.clus.length ≤ 16 ∧ r.a.comms.length ≤ 64 := by
  have := h.at
  unfold atCk at this
  split at this
  · cases this
  · split at this
    · cases this
    · omega
theorem okR.light {r : Rt} (h : okR r) : r.a.light := by have := h.len; unfold RtA.light; omega
def rkR (r : Rt) : Int := rkP (plc r)
def SrtR (M : List Rt) : Prop := (M.map rkR).Pairwise (· < ·)
def putR (e : Rt) : List Rt → List Rt
  | [] => [e]
  | x :: l => if rkR x < rkR e then x :: putR e l else if rkR x = rkR e then e :: l else e :: x :: l
def getR (M : List Rt) (p : Pk) : Option Rt := M.find? fun x => decide (plc x = p)
def dropR (M : List Rt) (p : Pk) : List Rt := M.filter fun x => decide (plc x ≠ p)
theorem SrtR.sub {L M : List Rt} (h : SrtR L) (hs : M.Sublist L) : SrtR M := h.sublist (hs.map _)
theorem SrtR.cons {x : Rt} {l : List Rt} : SrtR (x :: l) ↔ (∀ y ∈ l, rkR x < rkR y) ∧ SrtR l := by
  unfold SrtR
  rw [List.map_cons, List.pairwise_cons]
  exact and_congr ⟨fun h y hy => h _ (List.mem_map_of_mem hy), fun h r hr => by obtain ⟨y, hy, rfl⟩ := List.mem_map.1 hr; exact h y hy⟩ Iff.rfl
theorem putR_mem {e x : Rt} : ∀ {M : List Rt}, SrtR M → (x ∈ putR e M ↔ x = e ∨ (x ∈ M ∧ rkR x ≠ rkR e))
  | [], _ => by simp [putR]
  | y :: l, h => by
    obtain ⟨h1, h2⟩ := SrtR.cons.1 h
    unfold putR
    by_cases c1 : rkR y < rkR e
    · rw [if_pos c1, List.mem_cons, putR_mem h2, List.mem_cons]
      constructor
      · rintro (rfl | h | h)
        · exact .inr ⟨.inl rfl, by omega⟩
        · exact .inl h
        · exact .inr ⟨.inr h.1, h.2⟩
      · rintro (h | ⟨h | h, g⟩)
        · exact .inr (.inl h)
        · exact .inl h
        · exact .inr (.inr ⟨h, g⟩)
    · rw [if_neg c1]
      by_cases c2 : rkR y = rkR e
      · rw [if_pos c2, List.mem_cons, List.mem_cons]
        constructor
        · rintro (h | h)
          · exact .inl h
          · exact .inr ⟨.inr h, by have := h1 x h; omega⟩
        · rintro (h | ⟨rfl | h, g⟩)
          · exact .inl h
          · exact absurd c2 g
          · exact .inr h
      · rw [if_neg c2, List.mem_cons, List.mem_cons]
        constructor
        · rintro (h | rfl | h)
          · exact .inl h
          · exact .inr ⟨.inl rfl, c2⟩
          · exact .inr ⟨.inr h, by have := h1 x h; omega⟩
        · rintro (h | ⟨h, _⟩)
          · exact .inl h
          · exact .inr h
theorem putR_srt {e : Rt} : ∀ {M : List Rt}, SrtR M → SrtR (putR e M)
  | [], _ => by unfold putR SrtR; simp
  | y :: l, h => by
    obtain ⟨h1, h2⟩ := SrtR.cons.1 h
    unfold putR
    by_cases c1 : rkR y < rkR e
    · rw [if_pos c1]
      refine SrtR.cons.2 ⟨fun x hx => ?_, putR_srt h2⟩
      rcases (putR_mem h2).1 hx with rfl | ⟨hx, _⟩
      · exact c1
      · exact h1 x hx
    · rw [if_neg c1]
      by_cases c2 : rkR y = rkR e
      · rw [if_pos c2]
        exact SrtR.cons.2 ⟨fun x hx => by have := h1 x hx; omega, h2⟩
      · rw [if_neg c2]
        refine SrtR.cons.2 ⟨fun x hx => ?_, h⟩
        rcases List.mem_cons.1 hx with rfl | hx
        · omega
        · have := h1 x hx; omega
theorem SrtR.inj {L : List Rt} (h : SrtR L) : ∀ {x y}, x ∈ L → y ∈ L → rkR x = rkR y → x = y := by
  intro x y hx hy e
  induction L with
  | nil => cases hx
  | cons a l ih =>
    obtain ⟨h1, h2⟩ := SrtR.cons.1 h
    rcases List.mem_cons.1 hx with e1 | g1 <;> rcases List.mem_cons.1 hy with e2 | g2
    · rw [e1, e2]
    · have := h1 y g2; rw [e1] at e; omega
    · have := h1 x g1; rw [e2] at e; omega
    · exact ih h2 g1 g2
theorem SrtR.unique {L M : List Rt} (h : SrtR L) (h2 : SrtR M) (hp : L.Perm M) : L = M :=
  srt_unique hp (fun x hx y hy e => h.inj hx hy e) (h.imp fun h => by omega) (h2.imp fun h => by omega)
theorem SrtR.nd {L : List Rt} (h : SrtR L) : L.Nodup := by
  have h2 : (L.map rkR).Nodup := h.imp fun h => by omega
  exact (List.pairwise_map.1 h2).imp fun h e => h (by rw [e])
theorem SrtR.key {L : List Rt} (h : SrtR L) {x y : Rt} (hx : x ∈ L) (hy : y ∈ L) (e : plc x = plc y) : x = y := h.inj hx hy (by unfold rkR; rw [e])
theorem getR_iff {M : List Rt} (h : SrtR M) {p : Pk} {x : Rt} : getR M p = some x ↔ x ∈ M ∧ plc x = p := by
  constructor
  · intro e
    exact ⟨List.mem_of_find?_eq_some e, by simpa using List.find?_some e⟩
  · rintro ⟨hm, rfl⟩
    unfold getR
    cases e : M.find? fun y => decide (plc y = plc x) with
    | none =>
      have := List.find?_eq_none.1 e x hm
      simp at this
    | some y =>
      have h1 := List.mem_of_find?_eq_some e
      have h2 : plc y = plc x := by simpa using List.find?_some e
      rw [h.key h1 hm h2]
/-- A map that holds the routes of a list. -/
structure RibI (ms : List (Pk × Rw × Nat)) (c : Nat) (M : List Rt) : Prop where
  born : Born ms c
  uq : Uq ms
  fnd : ∀ p r, (∃ x, lkH ms p = some x ∧ x.r = r) ↔ r ∈ M ∧ plc r = p
  srt : SrtR M
  val : ∀ r ∈ M, okR r
variable {ms : List (Pk × Rw × Nat)} {c : Nat} {M : List Rt}
theorem okR.rk {x y : Rt} (hx : okR x) (hy : okR y) : rkR x = rkR y ↔ plc x = plc y := ⟨fun e => rkP_inj hx.pl hy.pl e, fun e => by unfold rkR; rw [e]⟩
theorem RibI.look (h : RibI ms c M) (p : Pk) : (lkH ms p).map (·.r) = getR M p := by
  apply Option.ext
  intro r
  rw [getR_iff h.srt, ← h.fnd]
  simp
theorem RibI.lkN (h : RibI ms c M) {p : Pk} (hn : lkH ms p = none) : getR M p = none := by rw [← h.look, hn]; rfl
theorem RibI.lkS (h : RibI ms c M) {p : Pk} {x : Rw} (hn : lkH ms p = some x) : getR M p = some x.r ∧ x.r ∈ M ∧ plc x.r = p := by
  have e : getR M p = some x.r := by rw [← h.look, hn]; rfl
  exact ⟨e, (getR_iff h.srt).1 e⟩
theorem RibI.new : RibI [] 0 [] := ⟨Born.nil 0, List.nodup_nil, fun p r => (by simp [lkH, fH]), List.Pairwise.nil, fun x h => (by cases h)⟩
theorem RibI.mem (h : RibI ms c M) {q : Pk × Rw × Nat} (hq : q ∈ ms) : q.2.1.r ∈ M ∧ plc q.2.1.r = q.1 := (h.fnd _ _).1 ⟨_, h.uq.lkH (k := q.1) (v := q.2.1) (n := q.2.2) hq, rfl⟩
theorem RibI.put (h : RibI ms c M) {e : Rt} (he : okR e) {x : Rw} (hx : x.r = e) : RibI (updH ms c (plc e) x) (updC ms c (plc e)) (putR e M) := by
  refine ⟨h.born.upd, h.uq.upd, fun p r => ?_, putR_srt h.srt, fun r hr => ?_⟩
  · rw [putR_mem h.srt, lkH_upd h.uq]
    by_cases hp : p = plc e
    · rw [if_pos hp]
      constructor
      · rintro ⟨y, hy, rfl⟩
        cases hy
        exact ⟨.inl hx, by rw [hx, hp]⟩
      · rintro ⟨h1 | ⟨h1, h2⟩, h3⟩
        · exact ⟨x, rfl, by rw [hx, h1]⟩
        · exact absurd (((h.val r h1).rk he).2 (h3.trans hp)) h2
    · rw [if_neg hp, h.fnd]
      constructor
      · rintro ⟨h1, h2⟩
        exact ⟨.inr ⟨h1, fun g => hp (h2.symm.trans (((h.val r h1).rk he).1 g))⟩, h2⟩
      · rintro ⟨h1 | ⟨h1, h2⟩, h3⟩
        · exact absurd (by rw [← h3, h1]) hp
        · exact ⟨h1, h3⟩
  · rcases (putR_mem h.srt).1 hr with rfl | ⟨h1, _⟩
    · exact he
    · exact h.val r h1
/-- Some routes are left. -/
theorem RibI.keep (h : RibI ms c M) {ms2 : List (Pk × Rw × Nat)} {f : Rt → Bool} (hb : Born ms2 c) (hu : Uq ms2) (hk : ∀ p, lkH ms2 p = match lkH ms p with | some x => if f x.r then some x else none | none => none) : RibI ms2 c (M.filter f) := by
  refine ⟨hb, hu, fun p r => ?_, h.srt.sub List.filter_sublist, fun r hr => h.val r (List.mem_filter.1 hr).1⟩
  rw [List.mem_filter, hk]
  constructor
  · rintro ⟨x, hx, rfl⟩
    split at hx
    · rename_i y hy
      split at hx
      · rename_i hf
        cases hx
        obtain ⟨h1, h2⟩ := (h.fnd p _).1 ⟨_, hy, rfl⟩
        exact ⟨⟨h1, hf⟩, h2⟩
      · cases hx
    · cases hx
  · rintro ⟨⟨h1, h2⟩, h3⟩
    obtain ⟨x, hx, rfl⟩ := (h.fnd p r).2 ⟨h1, h3⟩
    exact ⟨x, by rw [hx]; simp [h2], rfl⟩
theorem RibI.drop (h : RibI ms c M) (p : Pk) : RibI (delH ms p) c (dropR M p) := by
  refine ⟨h.born.del, h.uq.del, fun q r => ?_, h.srt.sub List.filter_sublist, fun r hr => h.val r (List.mem_filter.1 hr).1⟩
  unfold dropR
  rw [List.mem_filter, lkH_del h.uq]
  by_cases hq : q = p
  · rw [if_pos hq]
    constructor
    · rintro ⟨x, hx, _⟩; cases hx
    · rintro ⟨⟨h1, h2⟩, h3⟩
      exact absurd (h3.trans hq) (by simpa using h2)
  · rw [if_neg hq, h.fnd]
    constructor
    · rintro ⟨h1, h2⟩; exact ⟨⟨h1, by rw [decide_eq_true_eq, h2]; exact hq⟩, h2⟩
    · rintro ⟨⟨h1, _⟩, h2⟩; exact ⟨h1, h2⟩
/-- Routes are changed, and stay where they are. -/
theorem RibI.chg (h : RibI ms c M) {ms2 : List (Pk × Rw × Nat)} {f : Rt → Rt} (hp : ∀ r, plc (f r) = plc r) (hv : ∀ r, okR r → okR (f r)) (hb : Born ms2 c) (hu : Uq ms2) (hk : ∀ p, (lkH ms2 p).map (·.r) = (lkH ms p).map fun x => f x.r) : RibI ms2 c (M.map f) := by
  refine ⟨hb, hu, fun p r => ?_, ?_, fun r hr => ?_⟩
  · have e : (∃ x, lkH ms2 p = some x ∧ x.r = r) ↔ (lkH ms2 p).map (·.r) = some r := by simp
    rw [e, hk, List.mem_map, Option.map_eq_some_iff]
    constructor
    · rintro ⟨x, hx, rfl⟩
      obtain ⟨h1, h2⟩ := (h.fnd p _).1 ⟨x, hx, rfl⟩
      exact ⟨⟨_, h1, rfl⟩, by rw [hp, h2]⟩
    · rintro ⟨⟨y, hy, rfl⟩, h2⟩
      rw [hp] at h2
      obtain ⟨x, hx, rfl⟩ := (h.fnd p y).2 ⟨hy, h2⟩
      exact ⟨x, hx, rfl⟩
  · unfold SrtR
    rw [List.map_map]
    have : rkR ∘ f = rkR := by funext r; show rkP (plc (f r)) = rkP (plc r); rw [hp]
    rw [this]
    exact h.srt
  · obtain ⟨y, hy, rfl⟩ := List.mem_map.1 hr
    exact hv y (h.val y hy)
theorem RibI.perm (h : RibI ms c M) : (ms.map (·.2.1.r)).Perm M := by
  have e : (ms.map (·.2.1.r)).map plc = ms.map (·.1) := by
    rw [List.map_map]
    exact List.map_congr_left fun p hp => (h.mem hp).2
  have hnd : (ms.map (·.2.1.r)).Nodup := by
    have h1 : ((ms.map (·.2.1.r)).map plc).Nodup := by rw [e]; exact h.uq
    exact (List.pairwise_map.1 h1).imp fun h e => h (by rw [e])
  rw [List.perm_ext_iff_of_nodup hnd h.srt.nd]
  intro r
  constructor
  · intro hr
    obtain ⟨q, hq, rfl⟩ := List.mem_map.1 hr
    exact (h.mem hq).1
  · intro hr
    obtain ⟨x, hx, rfl⟩ := (h.fnd (plc r) r).2 ⟨hr, rfl⟩
    obtain ⟨n, hn⟩ := lkH_mem hx
    exact List.mem_map.2 ⟨_, hn, rfl⟩
theorem RibI.len (h : RibI ms c M) : ms.length = M.length := by have := h.perm.length_eq; rwa [List.length_map] at this
theorem RibI.okp (h : RibI ms c M) {q : Pk × Rw × Nat} (hq : q ∈ ms) : okP q.1 := by
  obtain ⟨h1, h2⟩ := h.mem hq
  rw [← h2]
  exact (h.val _ h1).pl
/-- Some keys, sorted, are the places of some routes. -/
theorem RibI.keys (h : RibI ms c M) {f : Pk → Bool} {ks : List Pk} (hp : ks.Perm ((ms.filter fun q => f q.1).map (·.1))) (hs : (ks.map rkP).Pairwise (· ≤ ·)) : ks = (M.filter fun r => f (plc r)).map plc := by
  have e0 : (ms.filter fun q => f q.1) = ms.filter fun q => f (plc q.2.1.r) := List.filter_congr fun q hq => by rw [(h.mem hq).2]
  have e : ((ms.filter fun q => f q.1).map (·.2.1.r)).map plc = (ms.filter fun q => f q.1).map (·.1) := by
    rw [List.map_map]
    exact List.map_congr_left fun p hp => (h.mem (List.mem_filter.1 hp).1).2
  have e1 : ((ms.filter fun q => f q.1).map (·.2.1.r)).Perm (M.filter fun r => f (plc r)) := by
    have := h.perm.filter fun r => f (plc r)
    rw [List.filter_map] at this
    rw [e0]
    exact this
  have hp2 : ks.Perm ((M.filter fun r => f (plc r)).map plc) := hp.trans (by rw [← e]; exact e1.map _)
  have hsM := h.srt.sub (List.filter_sublist (l := M) (p := fun r => f (plc r)))
  have hs2 : (((M.filter fun r => f (plc r)).map plc).map rkP).Pairwise (· ≤ ·) := by
    rw [List.map_map]
    exact hsM.imp fun h => by omega
  have hok : ∀ p ∈ (M.filter fun r => f (plc r)).map plc, okP p := fun p hp => by
    obtain ⟨r, hr, rfl⟩ := List.mem_map.1 hp
    exact (h.val r (List.mem_filter.1 hr).1).pl
  exact srt_unique hp2 (fun x hx y hy e => rkP_inj (hok x (hp2.mem_iff.1 hx)) (hok y (hp2.mem_iff.1 hy)) e) hs hs2
end Go.Proofs.YtphadapcafibpaaGreat.Abs

/- Ranges over maps: what has been seen, for any keys and values. -/
namespace Go.Proofs.YtphadapcafibpaaGreat.Abs
open Go
set_option linter.unusedVariables false
set_option linter.unusedSectionVars false
section
variable {K V : Type} [DecidableEq K]
theorem fltDec {L vk : List K} {k : K} (h1 : k ∈ L) (h2 : k ∉ vk) : (L.filter fun j => decide (j ∉ k :: vk)).length < (L.filter fun j => decide (j ∉ vk)).length := by
  have key : ∀ L : List K, (L.filter fun j => decide (j ∉ k :: vk)).length ≤ (L.filter fun j => decide (j ∉ vk)).length ∧ (k ∈ L → (L.filter fun j => decide (j ∉ k :: vk)).length < (L.filter fun j => decide (j ∉ vk)).length) := by
    intro L
    induction L with
    | nil => exact ⟨Nat.le_refl _, fun h => by cases h⟩
    | cons a L ih =>
      by_cases hak : a = k
      · subst hak
        have e1 : decide (a ∉ a :: vk) = false := decide_eq_false (by simp)
        have e2 : decide (a ∉ vk) = true := decide_eq_true h2
        rw [List.filter_cons, List.filter_cons, e1, e2]
        simp only [Bool.false_eq_true, if_false, if_true, List.length_cons]
        exact ⟨by omega, fun _ => by omega⟩
      · have e : decide (a ∉ k :: vk) = decide (a ∉ vk) := by rw [decide_eq_decide]; simp [hak]
        rw [List.filter_cons, List.filter_cons, e]
        have hm : k ∈ a :: L → k ∈ L := fun h => by
          rcases List.mem_cons.1 h with rfl | h
          · exact absurd rfl hak
          · exact h
        cases decide (a ∉ vk)
        · simp only [Bool.false_eq_true, if_false]
          exact ⟨ih.1, fun h => ih.2 (hm h)⟩
        · simp only [if_true, List.length_cons]
          exact ⟨by omega, fun h => by have := ih.2 (hm h); omega⟩
  exact (key L).2 h1
/-- Births of visited entries. -/
def SeenK (ms : List (K × V × Nat)) (vk : List K) (vs : List Nat) : Prop := ∀ p ∈ ms, p.2.2 ∈ vs ↔ p.1 ∈ vk
theorem SeenK.nil (ms : List (K × V × Nat)) : SeenK ms [] [] := fun p _ => by simp
theorem inj_of_nd {α β : Type} {f : α → β} : ∀ {L : List α}, (L.map f).Nodup → ∀ {x y}, x ∈ L → y ∈ L → f x = f y → x = y
  | [], _, x, y, hx, _, _ => by cases hx
  | a :: l, hn, x, y, hx, hy, e => by
    rw [List.map_cons, List.nodup_cons] at hn
    rcases List.mem_cons.1 hx with h1 | h1 <;> rcases List.mem_cons.1 hy with h2 | h2
    · rw [h1, h2]
    · exact absurd (by rw [← h1, e]; exact List.mem_map_of_mem h2) hn.1
    · exact absurd (by rw [← h2, ← e]; exact List.mem_map_of_mem h1) hn.1
    · exact inj_of_nd hn.2 h1 h2 e
theorem SeenK.cons {ms : List (K × V × Nat)} {vk : List K} {vs : List Nat} {c : Nat} (h : SeenK ms vk vs) (hb : Born ms c) (hu : Uq ms) {p : K × V × Nat} (hp : p ∈ ms) : SeenK ms (p.1 :: vk) (vs ++ [p.2.2]) := fun q hq => by
  rw [List.mem_append, List.mem_singleton, List.mem_cons, h q hq]
  constructor
  · rintro (h1 | h1)
    · exact .inr h1
    · exact .inl (by rw [inj_of_nd (f := fun p : K × V × Nat => p.2.2) hb.nd hq hp h1])
  · rintro (h1 | h1)
    · exact .inr (by rw [inj_of_nd (f := fun p : K × V × Nat => p.1) hu hq hp h1])
    · exact .inl h1
theorem SeenK.sub {ms ms' : List (K × V × Nat)} {vk : List K} {vs : List Nat} (h : SeenK ms vk vs) (hs : ∀ p ∈ ms', p ∈ ms) : SeenK ms' vk vs := fun p hp => h p (hs p hp)
theorem del_subK {ms : List (K × V × Nat)} (hu : Uq ms) (k : K) : ∀ p ∈ delH ms k, p ∈ ms := fun p hp => by
  rw [del_eq hu] at hp
  exact (List.mem_filter.1 hp).1
/-- An entry that is there gets another value; keys and births stay. -/
theorem upd_there {ms : List (K × V × Nat)} {c : Nat} {k : K} {v w : V} (h : lkH ms k = some w) : updC ms c k = c ∧ (updH ms c k v).map (fun p => (p.1, p.2.2)) = ms.map (fun p => (p.1, p.2.2)) := by
  unfold lkH at h
  unfold updC updH
  cases e : fH ms k with
  | none => rw [e] at h; cases h
  | some q =>
    obtain ⟨i, u⟩ := q
    refine ⟨rfl, ?_⟩
    obtain ⟨n, hn⟩ := fH_some e
    clear h e
    dsimp only
    induction ms generalizing i with
    | nil => rfl
    | cons p ms ih =>
      cases i with
      | zero =>
        have : p = (k, u, n) := by simpa using hn
        subst this
        rfl
      | succ i => simp only [setNth, List.map_cons, ih i (by simpa using hn)]
theorem SeenK.upd {ms : List (K × V × Nat)} {vk : List K} {vs : List Nat} {c : Nat} {k : K} {v w : V} (h : SeenK ms vk vs) (hk : lkH ms k = some w) : SeenK (updH ms c k v) vk vs := fun p hp => by
  have e := (upd_there (c := c) (v := v) hk).2
  have : (p.1, p.2.2) ∈ ms.map fun p => (p.1, p.2.2) := by rw [← e]; exact List.mem_map_of_mem (f := fun p : K × V × Nat => (p.1, p.2.2)) hp
  obtain ⟨q, hq, e2⟩ := List.mem_map.1 this
  obtain ⟨e3, e4⟩ := Prod.mk.inj e2
  rw [← e3, ← e4]
  exact h q hq
end
end Go.Proofs.YtphadapcafibpaaGreat.Abs

/- Places and keys are compared by their ranks. -/
namespace Go.Proofs.YtphadapcafibpaaGreat.Abs
open Go
set_option linter.unusedVariables false
section
variable {B0 : Nat} {old : Nat → Option (List Value)} {n : Nat} {H : Hp} {Q : Value → Hp → Prop}
set_option maxRecDepth 10000
set_option maxHeartbeats 8000000
theorem compare80_ct (a b : Pk) (hQ : Q (.int .i64 (if nlC a.k b.k = 0 then sgn a.peer b.peer else nlC a.k b.k)) H) : CallT (cx B0 old) (acall (cx B0 old) ansP (n + 7)) 80 [.agg ⟨enP a⟩, .agg ⟨enP b⟩] H Q := by
  have hcp : ∀ {H1 : Hp} {Θ : Value → Hp → Prop}, Θ (.int .i64 (nlC a.k b.k)) H1 → CallT (cx B0 old) (acall (cx B0 old) ansP (n + 6)) 66 [.agg ⟨en60 a.k⟩, .agg ⟨en60 b.k⟩] H1 Θ := fun h => compare66_ct a.k b.k h
  refine call_in2 19 rfl Tryz.func80 rfl rfl ?_
  unfold enP
  repeat(refine ZX ?_;try intro _)
  refine rt_step rfl rfl rfl (st_call rfl rfl rfl rfl (hcp ?_))
  repeat(refine ZX ?_;try intro _)
  first | (refine isRun ?_; refine z1 (fun hc => ?_) (fun hc => ?_)) | refine z2 (fun hc => ?_) (fun hc => ?_) | (refine isPlan ?_; refine z3 (fun hc => ?_) (fun hc => ?_))
  · rw [if_neg hc] at hQ
    repeat(refine ZX ?_;try intro _)
    exact re_1 rfl rfl (by exact drop_auto) hQ
  · rw [if_pos hc] at hQ
    repeat(refine ZX ?_;try intro _)
    refine rt_step rfl rfl rfl (st_call rfl rfl rfl rfl (cmp103_ct a.peer b.peer ?_))
    repeat(refine ZX ?_;try intro _)
    exact re_1 rfl rfl (by exact drop_auto) hQ
theorem placeCmp : CmpT (cx B0 old) enP rkP okP (.func (.func 80) #[] #[]) := ⟨80, #[], #[], rfl, rfl, fun n x y H Q hx hy h => compare80_ct (n := n + 3) x y (h _ (rkP_lt hx hy))⟩
theorem keysCmp : CmpT (cx B0 old) en60 rkS okS (.func (.func 66) #[] #[]) := ⟨66, #[], #[], rfl, rfl, fun n x y H Q hx hy h => compare66_ct (n := n + 4) x y (h _ (rkS_lt hx hy))⟩
end
end Go.Proofs.YtphadapcafibpaaGreat.Abs

/- The program's and the reference's Check of attributes (printed by genat.py). -/
namespace Go.Proofs.YtphadapcafibpaaGreat.Abs
open Go
set_option linter.unusedVariables false
section
variable {B0 : Nat} {old : Nat → Option (List Value)} {n : Nat} {H : Hp} {Q : Value → Hp → Prop}
set_option maxRecDepth 10000
set_option maxHeartbeats 16000000
theorem tuF {a b c d : Int} (h : leafsEq [.int .i64 a, .int .u32 b, .int .u32 c, .int .u32 d] [.int .i64 0, .int .u32 0, .int .u32 0, .int .u32 0] = true) : a = 0 ∧ b = 0 ∧ c = 0 ∧ d = 0 := by simpa [leafsEq, leafEq] using h
theorem tuN {a b c d : Int} (h : leafsEq [.int .i64 a, .int .u32 b, .int .u32 c, .int .u32 d] [.int .i64 0, .int .u32 0, .int .u32 0, .int .u32 0] = false) : ¬ (a = 0 ∧ b = 0 ∧ c = 0 ∧ d = 0) := fun g => by
  obtain ⟨rfl, rfl, rfl, rfl⟩ := g
  simp [leafsEq, leafEq] at h
section
variable {a : RtA}
theorem at_a (h : a.o < 0 ∨ a.o > 2) : atCk a = 2 := by unfold atCk; rw [if_pos h]
theorem at_b (h : ¬ (a.o < 0 ∨ a.o > 2)) (h2 : a.path.length > 32 ∨ a.clus.length > 16 ∨ a.comms.length > 64) : atCk a = 5 := by unfold atCk; rw [if_neg h, if_pos h2]
theorem at_c (h : ¬ (a.o < 0 ∨ a.o > 2)) (h2 : ¬ (a.path.length > 32 ∨ a.clus.length > 16 ∨ a.comms.length > 64)) (h3 : atForm a) : atCk a = 3 := by unfold atCk; rw [if_neg h, if_neg h2, if_pos h3]
theorem at_d (h : ¬ (a.o < 0 ∨ a.o > 2)) (h2 : ¬ (a.path.length > 32 ∨ a.clus.length > 16 ∨ a.comms.length > 64)) (h3 : ¬ atForm a) : atCk a = if a.t0 ≠ 0 ∧ a.t0 ≠ 3 ∧ a.t0 ≠ 6 then 6 else if a.t1 > 16777215 then 2 else if tuForm a then 3 else 0 := by unfold atCk; rw [if_neg h, if_neg h2, if_neg h3]
theorem at_6 (h : a.t0 ≠ 0 ∧ a.t0 ≠ 3 ∧ a.t0 ≠ 6) : (if a.t0 ≠ 0 ∧ a.t0 ≠ 3 ∧ a.t0 ≠ 6 then 6 else if a.t1 > 16777215 then 2 else if tuForm a then 3 else 0 : Int) = 6 := if_pos h
theorem at_2 (h : ¬ (a.t0 ≠ 0 ∧ a.t0 ≠ 3 ∧ a.t0 ≠ 6)) (h1 : a.t1 > 16777215) : (if a.t0 ≠ 0 ∧ a.t0 ≠ 3 ∧ a.t0 ≠ 6 then 6 else if a.t1 > 16777215 then 2 else if tuForm a then 3 else 0 : Int) = 2 := by rw [if_neg h, if_pos h1]
theorem at_3 (h : ¬ (a.t0 ≠ 0 ∧ a.t0 ≠ 3 ∧ a.t0 ≠ 6)) (h1 : ¬ a.t1 > 16777215) (h2 : tuForm a) : (if a.t0 ≠ 0 ∧ a.t0 ≠ 3 ∧ a.t0 ≠ 6 then 6 else if a.t1 > 16777215 then 2 else if tuForm a then 3 else 0 : Int) = 3 := by rw [if_neg h, if_neg h1, if_pos h2]
theorem at_0 (h : ¬ (a.t0 ≠ 0 ∧ a.t0 ≠ 3 ∧ a.t0 ≠ 6)) (h1 : ¬ a.t1 > 16777215) (h2 : ¬ tuForm a) : (if a.t0 ≠ 0 ∧ a.t0 ≠ 3 ∧ a.t0 ≠ 6 then 6 else if a.t1 > 16777215 then 2 else if tuForm a then 3 else 0 : Int) = 0 := by rw [if_neg h, if_neg h1, if_neg h2]
end
theorem atck55_ct (x : Rw) (hQ : Q (.int .i64 (atCk x.r.a)) H) : CallT (cx B0 old) (acall (cx B0 old) ansP (n + 1)) 55 [.agg ⟨enWA x⟩] H Q := by
  have ha := at_a (a := x.r.a)
  have hb := at_b (a := x.r.a)
  have hc3 := at_c (a := x.r.a)
  have hd := at_d (a := x.r.a)
  have h6 := at_6 (a := x.r.a)
  have h2 := at_2 (a := x.r.a)
  have h3 := at_3 (a := x.r.a)
  have h0 := at_0 (a := x.r.a)
  generalize (if x.r.a.t0 ≠ 0 ∧ x.r.a.t0 ≠ 3 ∧ x.r.a.t0 ≠ 6 then 6 else if x.r.a.t1 > 16777215 then 2 else if tuForm x.r.a then 3 else 0 : Int) = r2 at hd h6 h2 h3 h0
  generalize atCk x.r.a = r at *
  refine call_in1 92 rfl Tryz.func55 rfl rfl ?_
  obtain ⟨⟨rn, ⟨o, path, next, hm, med, hp, pref, hor, orig, clus, comms, t0, t1, t2, t3⟩, rp, rs⟩, ap, cp, ac, cc, am, cm⟩ := x
  unfold enWA enA
  unfold atForm at hc3 hd
  unfold tuForm at h3 h0
  dsimp only at ha hb hc3 hd h6 h2 h3 h0 ⊢
  repeat(refine ZX ?_;try intro _)
  rename_i bx
  first | (refine isRun ?_; refine z1 (fun hc => ?_) (fun hc => ?_)) | refine z2 (fun hc => ?_) (fun hc => ?_) | (refine isPlan ?_; refine z3 (fun hc => ?_) (fun hc => ?_))
  · repeat(refine ZX ?_;try intro _)
    exact re_1 (H' := H) rfl rfl (by exact drop_auto) (by rw [ha (by omega)] at hQ; exact hQ)
  repeat(refine ZX ?_;try intro _)
  first | (refine isRun ?_; refine z1 (fun hc => ?_) (fun hc => ?_)) | refine z2 (fun hc => ?_) (fun hc => ?_) | (refine isPlan ?_; refine z3 (fun hc => ?_) (fun hc => ?_))
  · repeat(refine ZX ?_;try intro _)
    exact re_1 (H' := H) rfl rfl (by exact drop_auto) (by rw [ha (by omega)] at hQ; exact hQ)
  repeat(refine ZX ?_;try intro _)
  first | (refine isRun ?_; refine z1 (fun hc => ?_) (fun hc => ?_)) | refine z2 (fun hc => ?_) (fun hc => ?_) | (refine isPlan ?_; refine z3 (fun hc => ?_) (fun hc => ?_))
  · repeat(refine ZX ?_;try intro _)
    exact re_1 (H' := H) rfl rfl (by exact drop_auto) (by rw [hb (by omega) (by omega)] at hQ; exact hQ)
  repeat(refine ZX ?_;try intro _)
  first | (refine isRun ?_; refine z1 (fun hc => ?_) (fun hc => ?_)) | refine z2 (fun hc => ?_) (fun hc => ?_) | (refine isPlan ?_; refine z3 (fun hc => ?_) (fun hc => ?_))
  · repeat(refine ZX ?_;try intro _)
    exact re_1 (H' := H) rfl rfl (by exact drop_auto) (by rw [hb (by omega) (by omega)] at hQ; exact hQ)
  repeat(refine ZX ?_;try intro _)
  first | (refine isRun ?_; refine z1 (fun hc => ?_) (fun hc => ?_)) | refine z2 (fun hc => ?_) (fun hc => ?_) | (refine isPlan ?_; refine z3 (fun hc => ?_) (fun hc => ?_))
  · repeat(refine ZX ?_;try intro _)
    exact re_1 (H' := H) rfl rfl (by exact drop_auto) (by rw [hb (by omega) (by omega)] at hQ; exact hQ)
  repeat(refine ZX ?_;try intro _)
  refine rt_midE (ι := Bool) (fun i => i = true ↔ ((hm = false ∧ med ≠ 0) ∨ (hp = false ∧ pref ≠ 0) ∨ (hor = false ∧ orig ≠ 0))) (fun i => [(55, .bool i), (1, .pointer (some ⟨bx, 0, none⟩))]) (fun _ => (bx, AObj.row [.int .i64 o, .slice ap path.length cp, .int .u32 next, .bool hm, .int .u32 med, .bool hp, .int .u32 pref, .bool hor, .int .u32 orig, .slice ac clus.length cc, .slice am comms.length cm, .int .i64 t0, .int .u32 t1, .int .u32 t2, .int .u32 t3] 15 false) :: H) ?_ ?_
  · repeat' (first | refine Z0 ?_ | (refine ZR ?_; first | refine x1 ?_ | refine x2 ?_ | refine x8 ?_ | refine Z1 ?_ | refine Z2 ?_ | refine x3 fun _ => ?_ | refine x4 fun _ => ?_ | refine x5 fun _ => ?_ | refine Z3 fun _ => ?_ | refine Z4 fun _ => ?_) | refine Za ?_ | refine Zb ?_ | refine Zl ?_ | refine Zc ?_ | refine Ze ?_ | refine Zi ?_ | refine Zj ?_ | refine Zf ?_ | refine Zg ?_ | refine Zm ?_ | refine Zn ?_ | refine Zo ?_ | refine Zp ?_ | refine Zq ?_ | refine Zr ?_ | refine Zk ?_ | refine Y0 ?_ | (refine YP ?_; first | refine y1 ?_ | refine y2 ?_ | refine Y1 ?_ | refine Y2 ?_) | (refine isPlan ?_; refine y3 ?_) | (first | (refine isRun ?_; refine z1 (fun hc => ?_) (fun hc => ?_)) | refine z2 (fun hc => ?_) (fun hc => ?_) | (refine isPlan ?_; refine z3 (fun hc => ?_) (fun hc => ?_))))
    all_goals (refine ⟨_, ?_, by repeat (first | exact SubL.nil | refine SubL.cons rfl ?_), by exact drop_auto⟩; simp [*])
  intro i hi
  cases i
  rotate_left
  · repeat(refine ZX ?_;try intro _)
    exact re_1 (H' := H) rfl rfl (by exact drop_auto) (by rw [hc3 (by omega) (by omega) (hi.1 rfl)] at hQ; exact hQ)
  rw [hd (by omega) (by omega) (fun h => by have := hi.2 h; cases this)] at hQ
  repeat' (first | refine Z0 ?_ | (refine ZR ?_; first | refine x1 ?_ | refine x2 ?_ | refine x8 ?_ | refine Z1 ?_ | refine Z2 ?_ | refine x3 fun _ => ?_ | refine x4 fun _ => ?_ | refine x5 fun _ => ?_ | refine Z3 fun _ => ?_ | refine Z4 fun _ => ?_) | refine Za ?_ | refine Zb ?_ | refine Zl ?_ | refine Zc ?_ | refine Ze ?_ | refine Zi ?_ | refine Zj ?_ | refine Zf ?_ | refine Zg ?_ | refine Zm ?_ | refine Zn ?_ | refine Zo ?_ | refine Zp ?_ | refine Zq ?_ | refine Zr ?_ | refine Zk ?_ | refine Y0 ?_ | (refine YP ?_; first | refine y1 ?_ | refine y2 ?_ | refine Y1 ?_ | refine Y2 ?_) | (refine isPlan ?_; refine y3 ?_) | (first | (refine isRun ?_; refine z1 (fun hc => ?_) (fun hc => ?_)) | refine z2 (fun hc => ?_) (fun hc => ?_) | (refine isPlan ?_; refine z3 (fun hc => ?_) (fun hc => ?_))))
  all_goals first
    | exact re_1 (H' := H) rfl rfl (by exact drop_auto) (by rw [h6 (by omega)] at hQ; exact hQ)
    | exact re_1 (H' := H) rfl rfl (by exact drop_auto) (by rw [h2 (by omega) (by omega)] at hQ; exact hQ)
    | exact re_1 (H' := H) rfl rfl (by exact drop_auto) (by rw [h3 (by omega) (by omega) (by omega)] at hQ; exact hQ)
    | exact re_1 (H' := H) rfl rfl (by exact drop_auto) (by rw [h0 (by omega) (by omega) (by omega)] at hQ; exact hQ)
    | (have hz := tuF (by assumption); exact re_1 (H' := H) rfl rfl (by exact drop_auto) (by rw [h0 (by omega) (by omega) (by omega)] at hQ; exact hQ))
    | (have hz := tuN (by assumption); exact re_1 (H' := H) rfl rfl (by exact drop_auto) (by rw [h3 (by omega) (by omega) (by omega)] at hQ; exact hQ))
    | (exfalso; omega)
theorem atck71_ct (x : Rw) (hQ : Q (.int .i64 (atCk x.r.a)) H) : CallT (cx B0 old) (acall (cx B0 old) ansP (n + 1)) 71 [.agg ⟨enWA x⟩] H Q := by
  have ha := at_a (a := x.r.a)
  have hb := at_b (a := x.r.a)
  have hc3 := at_c (a := x.r.a)
  have hd := at_d (a := x.r.a)
  have h6 := at_6 (a := x.r.a)
  have h2 := at_2 (a := x.r.a)
  have h3 := at_3 (a := x.r.a)
  have h0 := at_0 (a := x.r.a)
  generalize (if x.r.a.t0 ≠ 0 ∧ x.r.a.t0 ≠ 3 ∧ x.r.a.t0 ≠ 6 then 6 else if x.r.a.t1 > 16777215 then 2 else if tuForm x.r.a then 3 else 0 : Int) = r2 at hd h6 h2 h3 h0
  generalize atCk x.r.a = r at *
  refine call_in1 96 rfl Tryz.func71 rfl rfl ?_
  obtain ⟨⟨rn, ⟨o, path, next, hm, med, hp, pref, hor, orig, clus, comms, t0, t1, t2, t3⟩, rp, rs⟩, ap, cp, ac, cc, am, cm⟩ := x
  unfold enWA enA
  unfold atForm at hc3 hd
  unfold tuForm at h3 h0
  dsimp only at ha hb hc3 hd h6 h2 h3 h0 ⊢
  repeat(refine ZX ?_;try intro _)
  rename_i bx bt
  first | (refine isRun ?_; refine z1 (fun hc => ?_) (fun hc => ?_)) | refine z2 (fun hc => ?_) (fun hc => ?_) | (refine isPlan ?_; refine z3 (fun hc => ?_) (fun hc => ?_))
  · repeat(refine ZX ?_;try intro _)
    exact re_1 (H' := H) rfl rfl (by exact drop_auto) (by rw [ha (by omega)] at hQ; exact hQ)
  repeat(refine ZX ?_;try intro _)
  first | (refine isRun ?_; refine z1 (fun hc => ?_) (fun hc => ?_)) | refine z2 (fun hc => ?_) (fun hc => ?_) | (refine isPlan ?_; refine z3 (fun hc => ?_) (fun hc => ?_))
  · repeat(refine ZX ?_;try intro _)
    exact re_1 (H' := H) rfl rfl (by exact drop_auto) (by rw [ha (by omega)] at hQ; exact hQ)
  repeat(refine ZX ?_;try intro _)
  first | (refine isRun ?_; refine z1 (fun hc => ?_) (fun hc => ?_)) | refine z2 (fun hc => ?_) (fun hc => ?_) | (refine isPlan ?_; refine z3 (fun hc => ?_) (fun hc => ?_))
  · repeat(refine ZX ?_;try intro _)
    exact re_1 (H' := H) rfl rfl (by exact drop_auto) (by rw [hb (by omega) (by omega)] at hQ; exact hQ)
  repeat(refine ZX ?_;try intro _)
  first | (refine isRun ?_; refine z1 (fun hc => ?_) (fun hc => ?_)) | refine z2 (fun hc => ?_) (fun hc => ?_) | (refine isPlan ?_; refine z3 (fun hc => ?_) (fun hc => ?_))
  · repeat(refine ZX ?_;try intro _)
    exact re_1 (H' := H) rfl rfl (by exact drop_auto) (by rw [hb (by omega) (by omega)] at hQ; exact hQ)
  repeat(refine ZX ?_;try intro _)
  first | (refine isRun ?_; refine z1 (fun hc => ?_) (fun hc => ?_)) | refine z2 (fun hc => ?_) (fun hc => ?_) | (refine isPlan ?_; refine z3 (fun hc => ?_) (fun hc => ?_))
  · repeat(refine ZX ?_;try intro _)
    exact re_1 (H' := H) rfl rfl (by exact drop_auto) (by rw [hb (by omega) (by omega)] at hQ; exact hQ)
  repeat(refine ZX ?_;try intro _)
  refine rt_midE (ι := Bool) (fun i => i = true ↔ ((hm = false ∧ med ≠ 0) ∨ (hp = false ∧ pref ≠ 0) ∨ (hor = false ∧ orig ≠ 0))) (fun i => [(32, .bool i), (3, .pointer (some ⟨bt, 0, none⟩)), (1, .pointer (some ⟨bx, 0, none⟩))]) (fun _ => (bt, AObj.row [.int .i64 t0, .int .u32 t1, .int .u32 t2, .int .u32 t3] 4 false) :: (bx, AObj.row [.int .i64 o, .slice ap path.length cp, .int .u32 next, .bool hm, .int .u32 med, .bool hp, .int .u32 pref, .bool hor, .int .u32 orig, .slice ac clus.length cc, .slice am comms.length cm, .int .i64 t0, .int .u32 t1, .int .u32 t2, .int .u32 t3] 15 false) :: H) ?_ ?_
  · repeat' (first | refine Z0 ?_ | (refine ZR ?_; first | refine x1 ?_ | refine x2 ?_ | refine x8 ?_ | refine Z1 ?_ | refine Z2 ?_ | refine x3 fun _ => ?_ | refine x4 fun _ => ?_ | refine x5 fun _ => ?_ | refine Z3 fun _ => ?_ | refine Z4 fun _ => ?_) | refine Za ?_ | refine Zb ?_ | refine Zl ?_ | refine Zc ?_ | refine Ze ?_ | refine Zi ?_ | refine Zj ?_ | refine Zf ?_ | refine Zg ?_ | refine Zm ?_ | refine Zn ?_ | refine Zo ?_ | refine Zp ?_ | refine Zq ?_ | refine Zr ?_ | refine Zk ?_ | refine Y0 ?_ | (refine YP ?_; first | refine y1 ?_ | refine y2 ?_ | refine Y1 ?_ | refine Y2 ?_) | (refine isPlan ?_; refine y3 ?_) | (first | (refine isRun ?_; refine z1 (fun hc => ?_) (fun hc => ?_)) | refine z2 (fun hc => ?_) (fun hc => ?_) | (refine isPlan ?_; refine z3 (fun hc => ?_) (fun hc => ?_))))
    all_goals (refine ⟨_, ?_, by repeat (first | exact SubL.nil | refine SubL.cons rfl ?_), by exact drop_auto⟩; simp [*])
  intro i hi
  cases i
  rotate_left
  · repeat(refine ZX ?_;try intro _)
    exact re_1 (H' := H) rfl rfl (by exact drop_auto) (by rw [hc3 (by omega) (by omega) (hi.1 rfl)] at hQ; exact hQ)
  rw [hd (by omega) (by omega) (fun h => by have := hi.2 h; cases this)] at hQ
  repeat' (first | refine Z0 ?_ | (refine ZR ?_; first | refine x1 ?_ | refine x2 ?_ | refine x8 ?_ | refine Z1 ?_ | refine Z2 ?_ | refine x3 fun _ => ?_ | refine x4 fun _ => ?_ | refine x5 fun _ => ?_ | refine Z3 fun _ => ?_ | refine Z4 fun _ => ?_) | refine Za ?_ | refine Zb ?_ | refine Zl ?_ | refine Zc ?_ | refine Ze ?_ | refine Zi ?_ | refine Zj ?_ | refine Zf ?_ | refine Zg ?_ | refine Zm ?_ | refine Zn ?_ | refine Zo ?_ | refine Zp ?_ | refine Zq ?_ | refine Zr ?_ | refine Zk ?_ | refine Y0 ?_ | (refine YP ?_; first | refine y1 ?_ | refine y2 ?_ | refine Y1 ?_ | refine Y2 ?_) | (refine isPlan ?_; refine y3 ?_) | (first | (refine isRun ?_; refine z1 (fun hc => ?_) (fun hc => ?_)) | refine z2 (fun hc => ?_) (fun hc => ?_) | (refine isPlan ?_; refine z3 (fun hc => ?_) (fun hc => ?_))))
  all_goals first
    | exact re_1 (H' := H) rfl rfl (by exact drop_auto) (by rw [h6 (by omega)] at hQ; exact hQ)
    | exact re_1 (H' := H) rfl rfl (by exact drop_auto) (by rw [h2 (by omega) (by omega)] at hQ; exact hQ)
    | exact re_1 (H' := H) rfl rfl (by exact drop_auto) (by rw [h3 (by omega) (by omega) (by omega)] at hQ; exact hQ)
    | exact re_1 (H' := H) rfl rfl (by exact drop_auto) (by rw [h0 (by omega) (by omega) (by omega)] at hQ; exact hQ)
    | (have hz := tuF (by assumption); exact re_1 (H' := H) rfl rfl (by exact drop_auto) (by rw [h0 (by omega) (by omega) (by omega)] at hQ; exact hQ))
    | (have hz := tuN (by assumption); exact re_1 (H' := H) rfl rfl (by exact drop_auto) (by rw [h3 (by omega) (by omega) (by omega)] at hQ; exact hQ))
    | (exfalso; omega)
end
end Go.Proofs.YtphadapcafibpaaGreat.Abs

/- The rib's map of routes; contracts of valid, New, Many, Put. -/
namespace Go.Proofs.YtphadapcafibpaaGreat.Abs
open Go
set_option linter.unusedVariables false
def ekP (p : Pk) : Value := .agg ⟨enP p⟩
def evW (x : Rw) : Value := .agg ⟨enW x⟩
def zR : List Value := [.int .i64 0, .int .u64 0, .int .u8 0, .int .u8 0, .int .u8 0, .int .u8 0, .int .u8 0, .int .u8 0, .int .u8 0, .int .u8 0, .int .u8 0, .int .u8 0, .int .u32 0, .int .u64 0, .int .u32 0, .bool false, .int .u32 0, .int .i64 0, .int .u32 0, .int .u32 0, .int .u32 0, .int .i64 0, .slice none 0 0, .int .u32 0, .bool false, .int .u32 0, .bool false, .int .u32 0, .bool false, .int .u32 0, .slice none 0 0, .slice none 0 0, .int .i64 0, .int .u32 0, .int .u32 0, .int .u32 0, .int .u32 0, .bool false]
theorem enP_eq (a b : Pk) : leafsEq (enP a) (enP b) = decide (a = b) := by
  have e : leafsEq (enP a) (enP b) = (leafsEq (en60 a.k) (en60 b.k) && (a.peer == b.peer)) := by
    unfold enP en60
    simp only [leafsEq, leafN, leafT, Bool.and_true, Bool.and_assoc]
  rw [e]
  by_cases h : a = b
  · subst h
    rw [leaf60]; simp
  · rw [decide_eq_false h]
    by_cases h1 : a.k = b.k
    · have h2 : a.peer ≠ b.peer := fun g => h (Pk.ext' h1 g)
      simp [h2]
    · rw [leaf60_ne h1]; rfl
section
variable {B0 : Nat} {old : Nat → Option (List Value)} {n : Nat} {H : Hp} {Q : Value → Hp → Prop}
set_option maxRecDepth 10000
set_option maxHeartbeats 16000000
theorem akeyP (k : Pk) : (akeyOk (cx B0 old) 10000 91 (ekP k) && scal (ekP k)) = true := by kernel_rfl
theorem bitsP (k : Pk) : Instr.sameBits 10000 (ekP k) (ekP k) = true := by
  show Instr.sameBits (9999 + 1) _ _ = true
  simp [Instr.sameBits, ekP, enP]
theorem lvP : leavesE (cx B0 old) 20 91 = some [3, 34, 5, 5, 5, 5, 5, 5, 5, 5, 5, 5, 37, 38, 39, 4, 39, 3, 39, 37, 37, 39] := by kernel_rfl
theorem keyMapP : KeyMap (cx B0 old) 84 ekP (.agg ⟨zR⟩) := by
  refine ⟨⟨91, 52, _, rfl, fun k => akeyP k, fun a b => ?_, rfl, rfl, rfl⟩, fun k => bitsP k⟩
  obtain ⟨g, hg', hE⟩ := eqOk 20 91 _ (lvP (B0 := B0) (old := old))
  obtain ⟨x, y, ha, hb, _, he⟩ := hE (enP a) (enP b) rfl rfl Op.maxDepth (by decide)
  have hg : aggAt (cx B0 old) 91 = some true := rfl
  rw [hg] at hg'
  cases hg'
  cases ha
  cases hb
  rw [← enP_eq]
  exact he
end
/-- A rib that holds routes. -/
inductive Rib (C : Ctx) (lim : Int) (M : List Rt) : Value → Hp → Prop
  | mk (p mb c : Nat) (ms : List (Pk × Rw × Nat)) (Gm : Hp) (hI : RibI ms c M) (hR : ∀ q ∈ ms, Rd C Gm q.2.1) (h0 : 0 < lim) (h6 : lim ≤ 65536) (hl : (M.length : Int) ≤ lim) :
      Rib C lim M (.pointer (some ⟨p, 0, none⟩)) ((p, .row [.int .i64 lim, .map (some mb)] 2 false) :: (mb, .map (mkH ekP evW ms) c) :: Gm)
open Classical in
/-- Put. -/
noncomputable def putM (lim : Int) (r : Rt) (M : List Rt) : List Rt × Bool × Int := if rtCk r ≠ 0 then (M, false, rtCk r) else match getR M (plc r) with
  | none => if lim ≤ (M.length : Int) then (M, false, 7) else (putR r M, true, 0)
  | some o => if o = r then (M, false, 0) else (putR r M, true, 0)
theorem putR_len {e : Rt} : ∀ {M : List Rt}, (putR e M).length ≤ M.length + 1
  | [] => by simp [putR]
  | x :: l => by
    have := putR_len (e := e) (M := l)
    unfold putR
    split
    · simp only [List.length_cons]; omega
    · split <;> simp only [List.length_cons] <;> omega
theorem putR_old {e o : Rt} : ∀ {M : List Rt}, o ∈ M → rkR o = rkR e → SrtR M → (putR e M).length = M.length
  | [], h, _, _ => by cases h
  | x :: l, h, e1, hs => by
    obtain ⟨h1, h2⟩ := SrtR.cons.1 hs
    unfold putR
    rcases List.mem_cons.1 h with rfl | h
    · rw [if_neg (by omega), if_pos e1]; rfl
    · have := h1 _ h
      rw [if_pos (by omega), List.length_cons, putR_old h e1 h2, List.length_cons]
theorem rd_upd {C : Ctx} {G Gm : Hp} {ms : List (Pk × Rw × Nat)} {c : Nat} {p : Pk} {x : Rw} (hu : Uq ms) (hR : ∀ q ∈ ms, Rd C Gm q.2.1) (hx : Rd C G x) : ∀ q ∈ updH ms c p x, Rd C (G ++ Gm) q.2.1 := fun q hq => by
  obtain ⟨n, hn⟩ := upd_perm (c := c) (k := p) (v := x) hu
  rcases List.mem_cons.1 (hn.mem_iff.1 hq) with rfl | h
  · exact hx.weak (List.sublist_append_left _ _)
  · exact (hR q (List.mem_filter.1 h).1).weak (List.sublist_append_right _ _)
section
variable {B0 : Nat} {old : Nat → Option (List Value)} {n : Nat} {H : Hp} {Q : Value → Hp → Prop} {lim : Int} {M : List Rt} {v : Value} {Hs : Hp}
set_option maxRecDepth 10000
set_option maxHeartbeats 16000000
theorem valid47_ct {p mb : Nat} (h0 : 0 < lim) (h : Q (.bool true) ((p, .row [.int .i64 lim, .map (some mb)] 2 false) :: H)) :
    CallT (cx B0 old) (acall (cx B0 old) ansP (n + 1)) 47 [.pointer (some ⟨p, 0, none⟩)] ((p, .row [.int .i64 lim, .map (some mb)] 2 false) :: H) Q := by
  refine call_in1 12 rfl Tryz.func47 rfl rfl ?_
  repeat(refine ZX ?_;try intro _)
  rw [show decide (lim > 0) = true from decide_eq_true h0]
  exact re_1 rfl rfl (by exact drop_auto) h
theorem new9_ct (hbad : ¬ (1 ≤ lim ∧ lim ≤ 65536) → Q (.tuple #[.pointer none, .int .i64 2]) H) (hok : 1 ≤ lim ∧ lim ≤ 65536 → ∀ v Hs, Rib (cx B0 old) lim [] v Hs → Q (.tuple #[v, .int .i64 0]) (Hs ++ H)) :
    CallT (cx B0 old) (acall (cx B0 old) ansP (n + 1)) 9 [.int .i64 lim] H Q := by
  refine call_in1 14 rfl Tryz.func9 rfl rfl ?_
  repeat' (first | refine Z0 ?_ | (refine ZR ?_; first | refine x1 ?_ | refine x2 ?_ | refine x8 ?_ | refine Z1 ?_ | refine Z2 ?_ | refine x3 fun _ => ?_ | refine x4 fun _ => ?_ | refine x5 fun _ => ?_ | refine Z3 fun _ => ?_ | refine Z4 fun _ => ?_) | refine Za ?_ | refine Zb ?_ | refine Zl ?_ | refine Zc ?_ | refine Ze ?_ | refine Zi ?_ | refine Zj ?_ | refine Zf ?_ | refine Zg ?_ | refine Zm ?_ | refine Zn ?_ | refine Zo ?_ | refine Zp ?_ | refine Zq ?_ | refine Zr ?_ | refine Zk ?_ | refine Y0 ?_ | (refine YP ?_; first | refine y1 ?_ | refine y2 ?_ | refine Y1 ?_ | refine Y2 ?_) | (refine isPlan ?_; refine y3 ?_) | (first | (refine isRun ?_; refine z1 (fun hc => ?_) (fun hc => ?_)) | refine z2 (fun hc => ?_) (fun hc => ?_) | (refine isPlan ?_; refine z3 (fun hc => ?_) (fun hc => ?_))))
  · exact re_2 rfl rfl rfl (by exact drop_auto) (hbad (by omega))
  · exact re_2 rfl rfl rfl (by exact drop_auto) (hbad (by omega))
  · exact re_2 rfl rfl rfl (by exact drop_auto) (hok (by omega) _ _ (Rib.mk _ _ 0 [] [] RibI.new (fun q h => (by cases h)) (by omega) (by omega) (by simp; omega)))
theorem many19_ct (hI : Rib (cx B0 old) lim M v Hs) (h : Q (.int .i64 M.length) (Hs ++ H)) : CallT (cx B0 old) (acall (cx B0 old) ansP (n + 2)) 19 [v] (Hs ++ H) Q := by
  cases hI with
  | mk p mb c ms Gm hI hR h0 h6 hl =>
  rw [← hI.len] at h
  refine call_in1 11 rfl Tryz.func19 rfl rfl ?_
  repeat(refine ZX ?_;try intro _)
  refine rt_step rfl rfl rfl (st_call rfl rfl rfl rfl (valid47_ct h0 ?_))
  repeat(refine ZX ?_;try intro _)
  refine rt_r rfl rfl rfl (rd_mapLen rfl hm1 rfl) ?_
  rw [show (mkH ekP evW ms).length = ms.length by simp [mkH]]
  repeat(refine ZX ?_;try intro _)
  exact re_1 rfl rfl (by exact drop_auto) h
end
end Go.Proofs.YtphadapcafibpaaGreat.Abs

/- Contracts of Put, Drop and Get. -/
namespace Go.Proofs.YtphadapcafibpaaGreat.Abs
open Go
set_option linter.unusedVariables false
theorem pc4 {G H : Hp} {a b c d : Nat × AObj} : (G ++ (a :: b :: c :: d :: H)).Perm (a :: b :: c :: d :: (G ++ H)) := List.perm_append_comm_assoc G [a, b, c, d] H
theorem pc5 {G H : Hp} {a b c d e : Nat × AObj} : (G ++ (a :: b :: c :: d :: e :: H)).Perm (a :: b :: c :: d :: e :: (G ++ H)) := List.perm_append_comm_assoc G [a, b, c, d, e] H
section
variable {B0 : Nat} {old : Nat → Option (List Value)} {n : Nat} {H : Hp} {Q : Value → Hp → Prop} {lim : Int} {M : List Rt} {v : Value} {Hs : Hp}
set_option maxRecDepth 10000
set_option maxHeartbeats 16000000
theorem put23_ct (x : Rw) (hw : x.r.n.wf) (hpe : 0 ≤ x.r.peer ∧ x.r.peer ≤ 4294967295) (hx : Rd (cx B0 old) H x) (hI : Rib (cx B0 old) lim M v Hs)
    (hQ : ∀ Hs', Rib (cx B0 old) lim (putM lim x.r M).1 v Hs' → Q (.tuple #[.bool (putM lim x.r M).2.1, .int .i64 (putM lim x.r M).2.2]) (Hs' ++ H)) :
    CallT (cx B0 old) (acall (cx B0 old) ansP (n + 4)) 23 [v, .agg ⟨enW x⟩] (Hs ++ H) Q := by
  have hRib := hI
  cases hI with
  | mk p mb c ms Gm hI hR h0 h6 hl =>
  have hlook := hI.look (plc x.r)
  refine call_in2 68 rfl Tryz.func23 rfl rfl ?_
  have hck : ∀ {H1 : Hp} {Θ : Value → Hp → Prop}, Θ (.int .i64 (nlCk x.r.n)) H1 → CallT (cx B0 old) (acall (cx B0 old) ansP (n + 3)) 54 [.agg ⟨en60 x.r.n⟩] H1 Θ := fun h => check54_ct x.r.n h
  have hat : ∀ {H1 : Hp} {Θ : Value → Hp → Prop}, Θ (.int .i64 (atCk x.r.a)) H1 → CallT (cx B0 old) (acall (cx B0 old) ansP (n + 3)) 55 [.agg ⟨enWA x⟩] H1 Θ := fun h => atck55_ct x h
  have hky : ∀ {H1 : Hp} {Θ : Value → Hp → Prop}, Θ (.agg ⟨en60 (keyS x.r.n)⟩) H1 → CallT (cx B0 old) (acall (cx B0 old) ansP (n + 3)) 56 [.agg ⟨en60 x.r.n⟩] H1 Θ := fun h => key56_ct x.r.n h
  unfold enW enR
  repeat(refine ZX ?_;try intro _)
  refine rt_step rfl rfl rfl (st_call rfl rfl rfl rfl (CallT.perm (valid47_ct h0 ?_) pm1))
  refine RunT.perm ?_ pm1
  repeat(refine ZX ?_;try intro _)
  refine rt_step rfl rfl rfl (st_call rfl rfl rfl rfl (hck ?_))
  repeat(refine ZX ?_;try intro _)
  first | (refine isRun ?_; refine z1 (fun hc => ?_) (fun hc => ?_)) | refine z2 (fun hc => ?_) (fun hc => ?_) | (refine isPlan ?_; refine z3 (fun hc => ?_) (fun hc => ?_))
  · rename_i bx
    have hr : putM lim x.r M = (M, false, nlCk x.r.n) := by unfold putM rtCk; rw [if_pos hc, if_pos hc]
    rw [hr] at hQ
    repeat(refine ZX ?_;try intro _)
    exact re_2 rfl rfl rfl (by exact drop_auto) (hQ _ hRib)
  repeat(refine ZX ?_;try intro _)
  refine rt_step rfl rfl rfl (st_call rfl rfl rfl rfl (hat ?_))
  have hc1 := hc
  repeat(refine ZX ?_;try intro _)
  first | (refine isRun ?_; refine z1 (fun hc => ?_) (fun hc => ?_)) | refine z2 (fun hc => ?_) (fun hc => ?_) | (refine isPlan ?_; refine z3 (fun hc => ?_) (fun hc => ?_))
  · have hck0 : rtCk x.r = atCk x.r.a := by unfold rtCk; rw [if_neg (by omega)]
    have hr : putM lim x.r M = (M, false, atCk x.r.a) := by unfold putM; rw [hck0, if_pos hc]
    rw [hr] at hQ
    repeat(refine ZX ?_;try intro _)
    exact re_2 rfl rfl rfl (by exact drop_auto) (hQ _ hRib)
  have hck0 : rtCk x.r = 0 := by unfold rtCk; rw [if_neg (by omega)]; exact hc
  have hok : okR x.r := ⟨hw, hpe, hck0⟩
  repeat(refine ZX ?_;try intro _)
  refine ct_draw (masks := [0, 1, 3, 0, 8, 31, 0, 127]) (plan := [0, 1, 3, 4, 2, 5, 6, 7]) (E := [6]) (by kernel_rfl) (by kernel_rfl) (by kernel_rfl) (by kernel_rfl) ?_
  repeat refine YX ?_
  refine pl_S' (late_has 6 rfl (made_alloc rfl rfl (zr rfl))) rfl rfl rfl rfl rfl rfl (st_call rfl rfl rfl rfl (hky ⟨by exact rec_auto, ?_⟩))
  refine pl_p rfl rfl rfl rfl rfl rfl (p_buildS (r := enP ⟨keyS x.r.n, x.r.peer⟩) rfl (zr rfl) rfl rfl (by kernel_rfl) (by kernel_rfl)) ?_
  refine pl_S' (late_has 6 rfl (made_alloc rfl rfl (zr rfl))) rfl rfl rfl rfl rfl rfl (st_alloc (zr rfl) fun b8 => ⟨by exact rec_auto, ?_⟩)
  refine pl_S0' (late_no rfl) rfl rfl rfl rfl rfl (st_storeW rfl rfl hm0 (sz rfl) rfl rfl rfl sw0 ⟨by exact rec_auto, ?_⟩)
  repeat refine YX ?_
  repeat(refine ZX ?_;try intro _)
  have hlk := lookE_K (C := cx B0 old) (ev := evW) keyMapP ms ⟨keyS x.r.n, x.r.peer⟩ true
  have hupd := updE_K (C := cx B0 old) (ev := evW) keyMapP ms c ⟨keyS x.r.n, x.r.peer⟩
  unfold plc at hlook
  cases hq : lkH ms ⟨keyS x.r.n, x.r.peer⟩ with
  | none =>
    rw [hq] at hlk hlook
    simp only [if_true] at hlk
    refine ct_draw (masks := [0, 1, 3, 7, 0, 31, 63, 127, 127, 0, 767, 2047]) (plan := [0, 1, 2, 3, 4, 5, 6, 7, 8, 9, 10, 11]) (E := []) (by kernel_rfl) (by kernel_rfl) (by kernel_rfl) (by kernel_rfl) ?_
    repeat refine YX ?_
    refine pl_R rfl rfl rfl rfl rfl rfl (rd_lookup rfl rfl hm3 hlk) ?_
    repeat refine YX ?_
    refine pl_S rfl rfl rfl rfl rfl rfl (st_alloc (zr rfl) fun b9 => ⟨rec_rd (rd_lookup rfl rfl hm4 hlk) (by exact rec_auto), ?_⟩)
    refine pl_S0 rfl rfl rfl rfl rfl (st_storeW rfl rfl hm0 (sz rfl) rfl rfl rfl sw0 ⟨by exact rec_auto, ?_⟩)
    repeat refine YX ?_
    repeat(refine ZX ?_;try intro _)
    refine ct_draw (masks := [0, 1, 3, 7, 15, 31, 63, 127, 7, 263, 775, 1799, 4095, 8191]) (plan := [0, 1, 2, 3, 4, 5, 6, 7, 8, 9, 10, 11, 12, 13]) (E := []) (by kernel_rfl) (by kernel_rfl) (by kernel_rfl) (by kernel_rfl) ?_
    repeat refine YX ?_
    refine pl_R rfl rfl rfl rfl rfl rfl (rd_mapLen rfl hm4 rfl) ?_
    rw [show (mkH ekP evW ms).length = M.length by rw [← hI.len]; simp [mkH]]
    repeat refine YX ?_
    repeat(refine ZX ?_;try intro _)
    by_cases hle : lim ≤ M.length
    · have hr : putM lim x.r M = (M, false, 7) := by
        unfold putM plc
        rw [if_neg (by simp [hck0]), ← hlook]
        exact if_pos hle
      rw [hr] at hQ
      rw [show decide ((M.length : Int) ≥ lim) = true from decide_eq_true hle]
      repeat(refine ZX ?_;try intro _)
      exact re_2 rfl rfl rfl (by exact drop_auto) (hQ _ hRib)
    · have hr : putM lim x.r M = (putR x.r M, true, 0) := by
        unfold putM plc
        rw [if_neg (by simp [hck0]), ← hlook]
        exact if_neg hle
      rw [hr] at hQ
      rw [show decide ((M.length : Int) ≥ lim) = false from decide_eq_false hle]
      repeat(refine ZX ?_;try intro _)
      refine ct_draw (masks := [0, 1, 3, 7, 0, 0, 32, 127]) (plan := [0, 1, 2, 3, 4, 5, 6, 7]) (E := []) (by kernel_rfl) (by kernel_rfl) (by kernel_rfl) (by kernel_rfl) ?_
      repeat refine YX ?_
      refine pl_S rfl rfl rfl rfl rfl rfl (st_call rfl rfl rfl rfl (clone48W x hok.light (hx.weak (by exact drop_auto)) fun y G hy hyR => ⟨?_, ?_⟩))
      · exact rec_auto
      refine PlanT.perm ?_ pc5.symm
      repeat refine YX ?_
      refine pl_S0 rfl rfl rfl rfl rfl (st_update rfl rfl rfl (hupd y) sw4 ⟨by exact rec_auto, ?_⟩)
      repeat refine YX ?_
      repeat(refine ZX ?_;try intro _)
      refine re_2 rfl rfl rfl ?_ (hQ _ (Rib.mk p mb _ _ (G ++ Gm) (hI.put hok hy) (rd_upd hI.uq hR hyR) h0 h6 (by have := putR_len (e := x.r) (M := M); show ((putR x.r M).length : Int) ≤ lim; omega)))
      rw [List.cons_append, List.cons_append, List.append_assoc]
      exact drop_auto
  | some o =>
    rw [hq] at hlk hlook
    obtain ⟨g1, g2, g3⟩ := hI.lkS hq
    obtain ⟨no, hmo⟩ := lkH_mem hq
    have hRo := hR _ hmo
    dsimp only at hRo
    have hlo := (hI.val _ g2).len
    simp only [if_true] at hlk
    unfold evW at hlk
    have hlk' := hlk
    unfold enW enR at hlk'
    refine ct_draw (masks := [0, 1, 3, 7, 0, 31, 63, 127, 127, 0, 767, 2047]) (plan := [0, 1, 2, 3, 4, 5, 6, 7, 8, 9, 10, 11]) (E := []) (by kernel_rfl) (by kernel_rfl) (by kernel_rfl) (by kernel_rfl) ?_
    repeat refine YX ?_
    refine pl_R rfl rfl rfl rfl rfl rfl (rd_lookup rfl rfl hm3 hlk') ?_
    repeat refine YX ?_
    refine pl_S rfl rfl rfl rfl rfl rfl (st_alloc (zr rfl) fun b9 => ⟨rec_rd (rd_lookup rfl rfl hm4 hlk') (by exact rec_auto), ?_⟩)
    refine pl_S0 rfl rfl rfl rfl rfl (st_storeW rfl rfl hm0 (sz rfl) rfl rfl rfl sw0 ⟨by exact rec_auto, ?_⟩)
    repeat refine YX ?_
    repeat(refine ZX ?_;try intro _)
    refine ct_draw (masks := [0, 1, 3, 7, 15, 31, 63, 127, 7, 263, 775, 1799, 4095, 8191]) (plan := [0, 1, 2, 3, 4, 5, 6, 7, 8, 9, 10, 11, 12, 13]) (E := []) (by kernel_rfl) (by kernel_rfl) (by kernel_rfl) (by kernel_rfl) ?_
    repeat refine YX ?_
    repeat(refine ZX ?_;try intro _)
    refine rt_step rfl rfl rfl (st_call rfl rfl rfl rfl (same57_ct o x (by omega) (hRo.weak (by exact drop_auto)) (hx.weak (by exact drop_auto)) (fun he => ?_) (fun he => ?_)))
    · have hr : putM lim x.r M = (M, false, 0) := by
        unfold putM plc
        rw [if_neg (by simp [hck0]), ← hlook]
        exact if_pos he
      rw [hr] at hQ
      repeat(refine ZX ?_;try intro _)
      exact re_2 rfl rfl rfl (by exact drop_auto) (hQ _ hRib)
    · have hr : putM lim x.r M = (putR x.r M, true, 0) := by
        unfold putM plc
        rw [if_neg (by simp [hck0]), ← hlook]
        exact if_neg he
      rw [hr] at hQ
      repeat(refine ZX ?_;try intro _)
      refine ct_draw (masks := [0, 1, 3, 7, 0, 0, 32, 127]) (plan := [0, 1, 2, 3, 4, 5, 6, 7]) (E := []) (by kernel_rfl) (by kernel_rfl) (by kernel_rfl) (by kernel_rfl) ?_
      repeat refine YX ?_
      refine pl_S rfl rfl rfl rfl rfl rfl (st_call rfl rfl rfl rfl (clone48W x hok.light (hx.weak (by exact drop_auto)) fun y G hy hyR => ⟨?_, ?_⟩))
      · exact rec_auto
      refine PlanT.perm ?_ pc5.symm
      repeat refine YX ?_
      refine pl_S0 rfl rfl rfl rfl rfl (st_update rfl rfl rfl (hupd y) sw4 ⟨by exact rec_auto, ?_⟩)
      repeat refine YX ?_
      repeat(refine ZX ?_;try intro _)
      refine re_2 rfl rfl rfl ?_ (hQ _ (Rib.mk p mb _ _ (G ++ Gm) (hI.put hok hy) (rd_upd hI.uq hR hyR) h0 h6 (by have := putR_old (e := x.r) g2 (by unfold rkR; rw [g3]; rfl) hI.srt; show ((putR x.r M).length : Int) ≤ lim; omega)))
      rw [List.cons_append, List.cons_append, List.append_assoc]
      exact drop_auto
end
end Go.Proofs.YtphadapcafibpaaGreat.Abs

/- Contracts of Drop and Get. -/
namespace Go.Proofs.YtphadapcafibpaaGreat.Abs
open Go
set_option linter.unusedVariables false
def zA : RtA := ⟨0, [], 0, false, 0, false, 0, false, 0, [], [], 0, 0, 0, 0⟩
def zRt : Rt := ⟨zS, zA, 0, false⟩
def zRw : Rw := ⟨zRt, none, 0, none, 0, none, 0⟩
theorem rd_z {C : Ctx} {H : Hp} : Rd C H zRw := ⟨.nil, .nil, .nil⟩
theorem enW_z : enW zRw = zR := rfl
section
variable {B0 : Nat} {old : Nat → Option (List Value)} {n : Nat} {H : Hp} {Q : Value → Hp → Prop} {lim : Int} {M : List Rt} {v : Value} {Hs : Hp}
set_option maxRecDepth 10000
set_option maxHeartbeats 16000000
theorem drop35_ct (k : S60) (peer : Int) (hI : Rib (cx B0 old) lim M v Hs)
    (hno : getR M ⟨keyS k, peer⟩ = none → Q (.int .i64 8) (Hs ++ H)) (hyes : ∀ r, getR M ⟨keyS k, peer⟩ = some r → ∀ Hs', Rib (cx B0 old) lim (dropR M ⟨keyS k, peer⟩) v Hs' → Q (.int .i64 0) (Hs' ++ H)) :
    CallT (cx B0 old) (acall (cx B0 old) ansP (n + 2)) 35 [v, .agg ⟨en60 k⟩, .int .u32 peer] (Hs ++ H) Q := by
  cases hI with
  | mk p mb c ms Gm hI hR h0 h6 hl =>
  have hlook := hI.look ⟨keyS k, peer⟩
  have hlk := lookE_K (C := cx B0 old) (ev := evW) keyMapP ms ⟨keyS k, peer⟩ true
  have hdel := delE_K (C := cx B0 old) (ev := evW) keyMapP ms ⟨keyS k, peer⟩
  have hky : ∀ {H1 : Hp} {Θ : Value → Hp → Prop}, Θ (.agg ⟨en60 (keyS k)⟩) H1 → CallT (cx B0 old) (acall (cx B0 old) ansP (n + 1)) 56 [.agg ⟨en60 k⟩] H1 Θ := fun h => key56_ct k h
  refine call_in3 33 rfl Tryz.func35 rfl rfl ?_
  unfold en60
  repeat(refine ZX ?_;try intro _)
  refine rt_step rfl rfl rfl (st_call rfl rfl rfl rfl (CallT.perm (valid47_ct h0 ?_) pm1))
  refine RunT.perm ?_ pm1
  repeat(refine ZX ?_;try intro _)
  refine rt_step rfl rfl rfl (st_call rfl rfl rfl rfl (hky ?_))
  apply rt_p rfl rfl rfl
  case hp => exact p_move rfl
  apply rt_p rfl rfl rfl
  case hp => exact p_buildS (r := enP ⟨keyS k, peer⟩) rfl (zr rfl) rfl rfl (by kernel_rfl) (by kernel_rfl)
  repeat(refine ZX ?_;try intro _)
  cases hq : lkH ms ⟨keyS k, peer⟩ with
  | none =>
    rw [hq] at hlk hlook
    simp only [if_true] at hlk
    refine ct_draw (masks := [0, 1, 3, 7, 0, 31, 63, 127, 127, 0, 767, 2047]) (plan := [0, 1, 2, 3, 4, 5, 6, 7, 8, 9, 10, 11]) (E := []) (by kernel_rfl) (by kernel_rfl) (by kernel_rfl) (by kernel_rfl) ?_
    repeat refine YX ?_
    refine pl_R rfl rfl rfl rfl rfl rfl (rd_lookup rfl rfl hm3 hlk) ?_
    repeat refine YX ?_
    refine pl_S rfl rfl rfl rfl rfl rfl (st_alloc (zr rfl) fun b9 => ⟨rec_rd (rd_lookup rfl rfl hm4 hlk) (by exact rec_auto), ?_⟩)
    refine pl_S0 rfl rfl rfl rfl rfl (st_storeW rfl rfl hm0 (sz rfl) rfl rfl rfl sw0 ⟨by exact rec_auto, ?_⟩)
    repeat refine YX ?_
    repeat(refine ZX ?_;try intro _)
    exact re_1 rfl rfl (by exact drop_auto) (hno hlook.symm)
  | some o =>
    rw [hq] at hlk hlook
    simp only [if_true] at hlk
    unfold evW enW enR at hlk
    refine ct_draw (masks := [0, 1, 3, 7, 0, 31, 63, 127, 127, 0, 767, 2047]) (plan := [0, 1, 2, 3, 4, 5, 6, 7, 8, 9, 10, 11]) (E := []) (by kernel_rfl) (by kernel_rfl) (by kernel_rfl) (by kernel_rfl) ?_
    repeat refine YX ?_
    refine pl_R rfl rfl rfl rfl rfl rfl (rd_lookup rfl rfl hm3 hlk) ?_
    repeat refine YX ?_
    refine pl_S rfl rfl rfl rfl rfl rfl (st_alloc (zr rfl) fun b9 => ⟨rec_rd (rd_lookup rfl rfl hm4 hlk) (by exact rec_auto), ?_⟩)
    refine pl_S0 rfl rfl rfl rfl rfl (st_storeW rfl rfl hm0 (sz rfl) rfl rfl rfl sw0 ⟨by exact rec_auto, ?_⟩)
    repeat refine YX ?_
    repeat(refine ZX ?_;try intro _)
    refine ct_draw (masks := [0, 1, 3, 7, 0, 31]) (plan := [0, 1, 2, 3, 4, 5]) (E := []) (by kernel_rfl) (by kernel_rfl) (by kernel_rfl) (by kernel_rfl) ?_
    repeat refine YX ?_
    refine pl_S0 rfl rfl rfl rfl rfl (st_delete rfl rfl hdel sw4 ⟨by exact rec_auto, ?_⟩)
    repeat refine YX ?_
    repeat(refine ZX ?_;try intro _)
    exact re_1 rfl rfl (by exact drop_auto) (hyes o.r hlook.symm _ (Rib.mk p mb _ _ Gm (hI.drop _) (fun q hq => hR q (by rw [del_eq hI.uq] at hq; exact (List.mem_filter.1 hq).1)) h0 h6 (by have := List.length_filter_le (fun x => decide (plc x ≠ ⟨keyS k, peer⟩)) M; unfold dropR; omega)))
/-- Get: a copy, or zero. -/
theorem get29_ct (k : S60) (peer : Int) (hI : Rib (cx B0 old) lim M v Hs)
    (hQ : ∀ y G, y.r = (getR M ⟨keyS k, peer⟩).getD zRt → Rd (cx B0 old) G y → Q (.tuple #[.agg ⟨enW y⟩, .bool (getR M ⟨keyS k, peer⟩).isSome]) (G ++ (Hs ++ H))) :
    CallT (cx B0 old) (acall (cx B0 old) ansP (n + 3)) 29 [v, .agg ⟨en60 k⟩, .int .u32 peer] (Hs ++ H) Q := by
  cases hI with
  | mk p mb c ms Gm hI hR h0 h6 hl =>
  have hlook := hI.look ⟨keyS k, peer⟩
  have hlk := lookE_K (C := cx B0 old) (ev := evW) keyMapP ms ⟨keyS k, peer⟩ true
  have hky : ∀ {H1 : Hp} {Θ : Value → Hp → Prop}, Θ (.agg ⟨en60 (keyS k)⟩) H1 → CallT (cx B0 old) (acall (cx B0 old) ansP (n + 2)) 56 [.agg ⟨en60 k⟩] H1 Θ := fun h => key56_ct k h
  refine call_in3 29 rfl Tryz.func29 rfl rfl ?_
  unfold en60
  repeat(refine ZX ?_;try intro _)
  refine rt_step rfl rfl rfl (st_call rfl rfl rfl rfl (CallT.perm (valid47_ct h0 ?_) pm2))
  refine RunT.perm ?_ pm2.symm
  repeat(refine ZX ?_;try intro _)
  refine ct_draw (masks := [0, 1, 3, 7, 0, 16, 0, 112, 255, 511, 1023, 1023, 0, 6143, 16383]) (plan := [0, 1, 2, 3, 4, 6, 5, 7, 8, 9, 10, 11, 12, 13, 14]) (E := [12]) (by kernel_rfl) (by kernel_rfl) (by kernel_rfl) (by kernel_rfl) ?_
  repeat refine YX ?_
  refine pl_S' (late_has 12 rfl (made_alloc rfl rfl (zr rfl))) rfl rfl rfl rfl rfl rfl (st_call rfl rfl rfl rfl (hky ⟨by exact rec_auto, ?_⟩))
  refine pl_p rfl rfl rfl rfl rfl rfl (p_buildS (r := enP ⟨keyS k, peer⟩) rfl (zr rfl) rfl rfl (by kernel_rfl) (by kernel_rfl)) ?_
  cases hq : lkH ms ⟨keyS k, peer⟩ with
  | none =>
    rw [hq] at hlk hlook
    simp only [if_true] at hlk
    rw [← hlook] at hQ
    refine pl_R rfl rfl rfl rfl rfl rfl (rd_lookup rfl rfl hm3 hlk) ?_
    repeat refine YX ?_
    refine pl_S' (late_has 12 rfl (made_alloc rfl rfl (zr rfl))) rfl rfl rfl rfl rfl rfl (st_alloc (zr rfl) fun b9 => ⟨rec_rd (rd_lookup rfl rfl hm4 hlk) (by exact rec_auto), ?_⟩)
    refine pl_S0' (late_no rfl) rfl rfl rfl rfl rfl (st_storeW rfl rfl hm0 (sz rfl) rfl rfl rfl sw0 ⟨by exact rec_auto, ?_⟩)
    repeat refine YX ?_
    repeat(refine ZX ?_;try intro _)
    refine rt_step rfl rfl rfl (st_call rfl rfl rfl rfl (clone48W zRw (by unfold RtA.light; exact ⟨Nat.zero_le _, Nat.zero_le _, Nat.zero_le _⟩) rd_z fun y G hy hyR => ?_))
    have hQ := hQ y G hy hyR
    unfold enW enR at hQ ⊢
    repeat(refine ZX ?_;try intro _)
    exact re_c2 rfl rfl (.own _ _ (by exact in_auto)) rfl (sz rfl) rfl rfl (by exact drop_auto) hQ
  | some o =>
    rw [hq] at hlk hlook
    simp only [if_true] at hlk
    rw [← hlook] at hQ
    unfold evW at hlk
    unfold enW enR at hlk
    obtain ⟨g1, g2, g3⟩ := hI.lkS hq
    obtain ⟨no, hmo⟩ := lkH_mem hq
    have hRo := hR _ hmo
    dsimp only at hRo
    refine pl_R rfl rfl rfl rfl rfl rfl (rd_lookup rfl rfl hm3 hlk) ?_
    repeat refine YX ?_
    refine pl_S' (late_has 12 rfl (made_alloc rfl rfl (zr rfl))) rfl rfl rfl rfl rfl rfl (st_alloc (zr rfl) fun b9 => ⟨rec_rd (rd_lookup rfl rfl hm4 hlk) (by exact rec_auto), ?_⟩)
    refine pl_S0' (late_no rfl) rfl rfl rfl rfl rfl (st_storeW rfl rfl hm0 (sz rfl) rfl rfl rfl sw0 ⟨by exact rec_auto, ?_⟩)
    repeat refine YX ?_
    repeat(refine ZX ?_;try intro _)
    refine rt_step rfl rfl rfl (st_call rfl rfl rfl rfl (clone48W o (hI.val _ g2).light (hRo.weak (by exact drop_auto)) fun y G hy hyR => ?_))
    have hQ := hQ y G hy hyR
    unfold enW enR at hQ ⊢
    repeat(refine ZX ?_;try intro _)
    exact re_c2 rfl rfl (.own _ _ (by exact in_auto)) rfl (sz rfl) rfl rfl (by exact drop_auto) hQ
end
end Go.Proofs.YtphadapcafibpaaGreat.Abs

/- Contracts of DropPeer and Sweep (maps.DeleteFunc), and of Stale. -/
namespace Go.Proofs.YtphadapcafibpaaGreat.Abs
open Go
set_option linter.unusedVariables false
section
variable {B0 : Nat} {old : Nat → Option (List Value)} {n : Nat} {H : Hp} {Q : Value → Hp → Prop} {lim : Int} {M : List Rt} {v : Value} {Hs : Hp} {c mb : Nat} {ms : List (Pk × Rw × Nat)}
set_option maxRecDepth 10000
set_option maxHeartbeats 16000000
theorem del90_ct {g : Nat} {cap : List Value} {d : Pk → Rw → Bool} (hb : Born ms c) (hu : Uq ms) (hg : callable (cx B0 old) g = true)
    (hf : ∀ (q : Pk × Rw × Nat) (H1 : Hp) (Θ : Value → Hp → Prop), q ∈ ms → H.Sublist H1 → Θ (.bool (d q.1 q.2.1)) H1 → CallT (cx B0 old) (acall (cx B0 old) ansP (n + 1)) g ([] ++ ([.agg ⟨enP q.1⟩, .agg ⟨enW q.2.1⟩] ++ cap)) H1 Θ)
    (hQ : ∀ w ms', Born ms' c → Uq ms' → (∀ q ∈ ms', q ∈ ms) → (∀ k, lkH ms' k = match lkH ms k with | some x => if d k x then none else some x | none => none) → Q w ((mb, .map (mkH ekP evW ms') c) :: H)) :
    CallT (cx B0 old) (acall (cx B0 old) ansP (n + 2)) 90 [.map (some mb), .func (.func g) #[] ⟨cap⟩] ((mb, .map (mkH ekP evW ms) c) :: H) Q := by
  refine call_in2 19 rfl Tryz.func90 rfl rfl ?_
  repeat(refine ZX ?_;try intro _)
  refine rt_step rfl rfl rfl (st_range rfl hm0 rfl fun it => ?_)
  repeat(refine ZX ?_;try intro _)
  refine loop_ind (ι := List Pk × List Nat × List (Pk × Rw × Nat)) ([], [], ms) (fun j => ((ms.map (·.1)).filter fun k => decide (k ∉ j.1)).length)
    (fun j => Born j.2.2 c ∧ Uq j.2.2 ∧ SeenK j.2.2 j.1 j.2.1 ∧ (∀ q ∈ j.2.2, q ∈ ms) ∧ ∀ k, lkH j.2.2 k = match lkH ms k with | some x => if k ∈ j.1 ∧ d k x = true then none else some x | none => none)
    (fun j => [(7, .pointer (some ⟨it, 0, none⟩)), (0, .map (some mb)), (1, .func (.func g) #[] ⟨cap⟩)])
    (fun j => (it, .iter (some mb) c j.2.1 c) :: (mb, AObj.map (mkH ekP evW j.2.2) c) :: H) ⟨hb, hu, SeenK.nil _, fun q h => h, fun k => by cases lkH ms k <;> simp⟩ (by repeat (first | exact SubL.nil | refine SubL.cons rfl ?_)) (List.Sublist.refl _) ?_
  rintro ⟨vk, vs, ms1⟩ ⟨hb1, hu1, hsn, hsub, hlk⟩
  dsimp only at hb1 hu1 hsn hsub hlk ⊢
  repeat(refine ZX ?_;try intro _)
  refine rt_step rfl rfl rfl (st_nextH rfl hm0 hb1 (fun hall => ?_) (fun q hq hnq => ?_))
  · repeat(refine ZX ?_;try intro _)
    refine re_0 rfl (by exact drop_auto) (fun w => hQ w ms1 hb1 hu1 hsub fun k => ?_)
    rw [hlk]
    cases hk : lkH ms k with
    | none => rfl
    | some x =>
      dsimp only
      by_cases hv : k ∈ vk
      · simp only [hv, true_and]
      · exfalso
        have h1 := hlk k
        rw [hk] at h1
        dsimp only at h1
        rw [if_neg (fun h => hv h.1)] at h1
        obtain ⟨m, hm⟩ := lkH_mem h1
        exact hv ((hsn _ hm).1 (hall _ hm))
  obtain ⟨k, x, bo⟩ := q
  dsimp only at hnq ⊢
  have hkv : k ∉ vk := fun h => hnq ((hsn _ hq).2 h)
  have hk0 : k ∈ ms.map (·.1) := List.mem_map.2 ⟨_, hsub _ hq, rfl⟩
  have hdec := fltDec hk0 hkv
  have hsn2 := hsn.cons hb1 hu1 hq
  have hkm : lkH ms k = some x := hu.lkH (hsub _ hq)
  unfold ekP evW
  repeat(refine ZX ?_;try intro _)
  refine rt_r rfl rfl rfl (rd_entryH (ek := ekP) (ev := evW) (vs := vs) (p := (k, x, bo)) rfl hm0 hm1 hb1 hq) ?_
  dsimp only
  unfold ekP evW enP enW enR
  repeat(refine ZX ?_;try intro _)
  rename_i b5 b4
  refine rt_step rfl rfl rfl (st_call (first := #[]) (cap := ⟨cap⟩) rfl rfl hg rfl (hf (k, x, bo) _ _ (hsub _ hq) (by exact drop_auto) ?_))
  dsimp only
  repeat(refine ZX ?_;try intro _)
  cases hd : d k x with
  | false =>
    repeat(refine ZX ?_;try intro _)
    refine ⟨(k :: vk, vs ++ [bo], ms1), ⟨hb1, hu1, hsn2, hsub, fun j => ?_⟩, hdec, by repeat (first | exact SubL.nil | refine SubL.cons rfl ?_), by exact drop_auto⟩
    dsimp only
    rw [hlk]
    cases hj : lkH ms j with
    | none => rfl
    | some w =>
      dsimp only
      by_cases hjk : j = k
      · subst hjk
        rw [hkm] at hj
        cases hj
        rw [if_neg (fun h => by rw [hd] at h; cases h.2), if_neg (fun h => by rw [hd] at h; cases h.2)]
      · have : (j ∈ k :: vk ∧ d j w = true) ↔ (j ∈ vk ∧ d j w = true) := by simp [hjk]
        simp only [this]
  | true =>
    repeat(refine ZX ?_;try intro _)
    refine rt_step0 rfl rfl (st_delete rfl rfl (delE_K (K := Pk) (ev := evW) keyMapP ms1 k) sw3 ?_)
    repeat(refine ZX ?_;try intro _)
    refine ⟨(k :: vk, vs ++ [bo], delH ms1 k), ⟨hb1.del, hu1.del, hsn2.sub (del_subK hu1 k), fun q h => hsub q (del_subK hu1 k q h), fun j => ?_⟩, hdec, by repeat (first | exact SubL.nil | refine SubL.cons rfl ?_), by exact drop_auto⟩
    dsimp only
    rw [lkH_del hu1, hlk]
    by_cases hjk : j = k
    · subst hjk
      rw [if_pos rfl, hkm]
      dsimp only
      rw [if_pos ⟨List.mem_cons_self .., hd⟩]
    · rw [if_neg hjk]
      cases hj : lkH ms j with
      | none => rfl
      | some w =>
        dsimp only
        have : (j ∈ k :: vk ∧ d j w = true) ↔ (j ∈ vk ∧ d j w = true) := by simp [hjk]
        simp only [this]
end
end Go.Proofs.YtphadapcafibpaaGreat.Abs

/- Contracts of DropPeer, Sweep and Stale. -/
namespace Go.Proofs.YtphadapcafibpaaGreat.Abs
open Go
set_option linter.unusedVariables false
/-- The routes that DropPeer, or Sweep, leaves. -/
def keepD (peer : Int) (r : Rt) : Bool := !decide (r.peer = peer)
def keepS (peer : Int) (r : Rt) : Bool := !(decide (r.peer = peer) && r.stale)
def stlR (peer : Int) (r : Rt) : Rt := if r.peer = peer then { r with stale := true } else r
def stlN (peer : Int) (M : List Rt) : Nat := (M.filter fun r => decide (r.peer = peer) && !r.stale).length
theorem plc_stl (peer : Int) (r : Rt) : plc (stlR peer r) = plc r := by unfold stlR; split <;> rfl
theorem ok_stl (peer : Int) (r : Rt) (h : okR r) : okR (stlR peer r) := by
  unfold stlR
  split
  · exact ⟨h.wf, h.peer, h.ck⟩
  · exact h
section
variable {B0 : Nat} {old : Nat → Option (List Value)} {n : Nat} {H : Hp} {Q : Value → Hp → Prop} {lim : Int} {M : List Rt} {v : Value} {Hs : Hp} {c mb : Nat} {ms : List (Pk × Rw × Nat)}
set_option maxRecDepth 10000
set_option maxHeartbeats 16000000
theorem unw69_ct {pb : Nat} (peer : Int) (k : Pk) (x : Rw) (hpb : (pb, AObj.row [.int .u32 peer] 1 false) ∈ H) (hQ : Q (.bool (decide (k.peer = peer))) H) :
    CallT (cx B0 old) (acall (cx B0 old) ansP (n + 1)) 69 [.agg ⟨enP k⟩, .agg ⟨enW x⟩, .pointer (some ⟨pb, 0, none⟩)] H Q := by
  refine call_in3 10 rfl Tryz.func69 rfl rfl ?_
  have hL0 : ∀ H', H.Sublist H' → LdT (cx B0 old) 39 H' pb 0 (.int .u32 peer) := fun H' hs => ld1 (.own _ _ (hs.subset hpb)) rfl (sz rfl) rfl
  unfold enP enW enR
  repeat(refine ZX ?_;try intro _)
  refine re_1 (H' := H) rfl rfl (by exact drop_auto) ?_
  rw [show (k.peer == peer) = decide (k.peer = peer) by rw [Bool.eq_iff_iff]; simp]
  exact hQ
theorem unw63_ct {pb : Nat} (peer : Int) (k : Pk) (x : Rw) (hpb : (pb, AObj.row [.int .u32 peer] 1 false) ∈ H) (hQ : Q (.bool (decide (k.peer = peer) && x.r.stale)) H) :
    CallT (cx B0 old) (acall (cx B0 old) ansP (n + 1)) 63 [.agg ⟨enP k⟩, .agg ⟨enW x⟩, .pointer (some ⟨pb, 0, none⟩)] H Q := by
  refine call_in3 14 rfl Tryz.func63 rfl rfl ?_
  have hL0 : ∀ H', H.Sublist H' → LdT (cx B0 old) 39 H' pb 0 (.int .u32 peer) := fun H' hs => ld1 (.own _ _ (hs.subset hpb)) rfl (sz rfl) rfl
  unfold enP enW enR
  repeat' (first | refine Z0 ?_ | (refine ZR ?_; first | refine x1 ?_ | refine x2 ?_ | refine x8 ?_ | refine Z1 ?_ | refine Z2 ?_ | refine x3 fun _ => ?_ | refine x4 fun _ => ?_ | refine x5 fun _ => ?_ | refine Z3 fun _ => ?_ | refine Z4 fun _ => ?_) | refine Za ?_ | refine Zb ?_ | refine Zl ?_ | refine Zc ?_ | refine Ze ?_ | refine Zi ?_ | refine Zj ?_ | refine Zf ?_ | refine Zg ?_ | refine Zm ?_ | refine Zn ?_ | refine Zo ?_ | refine Zp ?_ | refine Zq ?_ | refine Zr ?_ | refine Zk ?_ | refine Y0 ?_ | (refine YP ?_; first | refine y1 ?_ | refine y2 ?_ | refine Y1 ?_ | refine Y2 ?_) | (refine isPlan ?_; refine y3 ?_) | (first | (refine isRun ?_; refine z1 (fun hc => ?_) (fun hc => ?_)) | refine z2 (fun hc => ?_) (fun hc => ?_) | (refine isPlan ?_; refine z3 (fun hc => ?_) (fun hc => ?_))))
  · refine re_1 (H' := H) rfl rfl (by exact drop_auto) ?_
    rw [decide_eq_true hc, Bool.true_and] at hQ
    exact hQ
  · refine re_1 (H' := H) rfl rfl (by exact drop_auto) ?_
    rw [decide_eq_false hc, Bool.false_and] at hQ
    exact hQ
theorem remove62_ct {g pb : Nat} {d : Pk → Rw → Bool} {f : Rt → Bool} {peer : Int} (hI : Rib (cx B0 old) lim M v Hs) (hg : callable (cx B0 old) g = true) (hd : ∀ x : Rw, f x.r = !d (plc x.r) x)
    (hf : ∀ (k : Pk) (x : Rw) (H1 : Hp) (Θ : Value → Hp → Prop), (pb, AObj.row [.int .u32 peer] 1 false) ∈ H1 → Θ (.bool (d k x)) H1 → CallT (cx B0 old) (acall (cx B0 old) ansP (n + 1)) g [.agg ⟨enP k⟩, .agg ⟨enW x⟩, .pointer (some ⟨pb, 0, none⟩)] H1 Θ)
    (hQ : ∀ Hs', Rib (cx B0 old) lim (M.filter f) v Hs' → Q (.int .i64 ((M.length : Int) - ((M.filter f).length : Int))) (Hs' ++ H)) :
    CallT (cx B0 old) (acall (cx B0 old) ansP (n + 3)) 62 [v, .func (.func g) #[] #[.pointer (some ⟨pb, 0, none⟩)]] ((pb, .row [.int .u32 peer] 1 false) :: (Hs ++ H)) Q := by
  cases hI with
  | mk p mb c ms Gm hI hR h0 h6 hl =>
  refine call_in2 27 rfl Tryz.func62 rfl rfl ?_
  repeat(refine ZX ?_;try intro _)
  refine rt_step rfl rfl rfl (st_call rfl rfl rfl rfl (CallT.perm (valid47_ct h0 ?_) pm1))
  refine RunT.perm ?_ pm1
  repeat(refine ZX ?_;try intro _)
  refine rt_r rfl rfl rfl (rd_mapLen rfl hm2 rfl) ?_
  rw [show (mkH ekP evW ms).length = M.length by rw [← hI.len]; simp [mkH]]
  repeat(refine ZX ?_;try intro _)
  refine rt_step rfl rfl rfl (st_call rfl rfl rfl rfl (CallT.perm (H' := (mb, _) :: (pb, _) :: (p, _) :: (Gm ++ H)) (del90_ct (n := n) (g := g) (cap := [.pointer (some ⟨pb, 0, none⟩)]) (d := d) hI.born hI.uq hg (fun q H1 Θ hq hs hΘ => hf q.1 q.2.1 H1 Θ (hs.subset (List.Mem.head _)) hΘ) fun w ms' hb' hu' hsub hlk => ?_) pm2))
  have hI' : RibI ms' c (M.filter f) := hI.keep hb' hu' fun k => by
    rw [hlk]
    cases hk : lkH ms k with
    | none => rfl
    | some x =>
      obtain ⟨_, _, g3⟩ := hI.lkS hk
      dsimp only
      rw [hd, g3]
      cases d k x <;> rfl
  refine RunT.perm ?_ pm2
  repeat(refine ZX ?_;try intro _)
  refine rt_r rfl rfl rfl (rd_mapLen rfl hm1 rfl) ?_
  rw [show (mkH ekP evW ms').length = (M.filter f).length by rw [← hI'.len]; simp [mkH]]
  have hle := List.length_filter_le f M
  repeat(refine ZX ?_;try intro _)
  exact re_1 rfl rfl (by exact drop_auto) (hQ _ (Rib.mk p mb c ms' Gm hI' (fun q hq => hR q (hsub q hq)) h0 h6 (by omega)))
theorem dropPeer36_ct (peer : Int) (hI : Rib (cx B0 old) lim M v Hs) (hQ : ∀ Hs', Rib (cx B0 old) lim (M.filter (keepD peer)) v Hs' → Q (.int .i64 ((M.length : Int) - ((M.filter (keepD peer)).length : Int))) (Hs' ++ H)) :
    CallT (cx B0 old) (acall (cx B0 old) ansP (n + 4)) 36 [v, .int .u32 peer] (Hs ++ H) Q := by
  refine call_in2 8 rfl Tryz.func36 rfl rfl ?_
  repeat(refine ZX ?_;try intro _)
  rename_i pb
  refine rt_step rfl rfl rfl (st_call rfl rfl rfl rfl (remove62_ct (n := n) (d := fun k x => decide (k.peer = peer)) (f := keepD peer) hI rfl (fun x => rfl) (fun k x H1 Θ hm hΘ => unw69_ct peer k x hm hΘ) fun Hs' hI' => ?_))
  repeat(refine ZX ?_;try intro _)
  exact re_1 rfl rfl (by exact drop_auto) (hQ Hs' hI')
theorem sweep25_ct (peer : Int) (hI : Rib (cx B0 old) lim M v Hs) (hQ : ∀ Hs', Rib (cx B0 old) lim (M.filter (keepS peer)) v Hs' → Q (.int .i64 ((M.length : Int) - ((M.filter (keepS peer)).length : Int))) (Hs' ++ H)) :
    CallT (cx B0 old) (acall (cx B0 old) ansP (n + 4)) 25 [v, .int .u32 peer] (Hs ++ H) Q := by
  refine call_in2 8 rfl Tryz.func25 rfl rfl ?_
  repeat(refine ZX ?_;try intro _)
  rename_i pb
  refine rt_step rfl rfl rfl (st_call rfl rfl rfl rfl (remove62_ct (n := n) (d := fun k x => decide (k.peer = peer) && x.r.stale) (f := keepS peer) hI rfl (fun x => rfl) (fun k x H1 Θ hm hΘ => unw63_ct peer k x hm hΘ) fun Hs' hI' => ?_))
  repeat(refine ZX ?_;try intro _)
  exact re_1 rfl rfl (by exact drop_auto) (hQ Hs' hI')
end
end Go.Proofs.YtphadapcafibpaaGreat.Abs

/- Contract of Stale. -/
namespace Go.Proofs.YtphadapcafibpaaGreat.Abs
open Go
set_option linter.unusedVariables false
theorem cnt_step {K V : Type} [DecidableEq K] {vk : List K} {g : K × V × Nat → Bool} {q0 : K × V × Nat} (hv : q0.1 ∉ vk) : ∀ {ms : List (K × V × Nat)}, Uq ms → q0 ∈ ms →
    (ms.filter fun q => decide (q.1 ∈ q0.1 :: vk) && g q).length = (ms.filter fun q => decide (q.1 ∈ vk) && g q).length + if g q0 then 1 else 0
  | [], _, h => by cases h
  | a :: l, hu, h => by
    unfold Uq at hu
    rw [List.map_cons, List.nodup_cons] at hu
    by_cases e : a = q0
    · subst e
      have hc : (l.filter fun q => decide (q.1 ∈ a.1 :: vk) && g q) = l.filter fun q => decide (q.1 ∈ vk) && g q := List.filter_congr fun q hq => by
        have hne : q.1 ≠ a.1 := fun e => hu.1 (by rw [← e]; exact List.mem_map_of_mem hq)
        simp [hne]
      rw [List.filter_cons, List.filter_cons, hc]
      have e1 : decide (a.1 ∈ a.1 :: vk) = true := decide_eq_true (by simp)
      have e2 : decide (a.1 ∈ vk) = false := decide_eq_false hv
      rw [e1, e2]
      cases g a <;> simp
    · have hl : q0 ∈ l := by
        rcases List.mem_cons.1 h with h | h
        · exact absurd h.symm e
        · exact h
      have ih := cnt_step (g := g) hv (ms := l) hu.2 hl
      have hne : a.1 ≠ q0.1 := fun e => hu.1 (by rw [e]; exact List.mem_map_of_mem hl)
      have e1 : decide (a.1 ∈ q0.1 :: vk) = decide (a.1 ∈ vk) := by simp [hne]
      rw [List.filter_cons, List.filter_cons, e1]
      by_cases hd : (decide (a.1 ∈ vk) && g a) = true
      · rw [if_pos hd, if_pos hd, List.length_cons, List.length_cons, ih]; omega
      · rw [if_neg hd, if_neg hd, ih]
def stlW (peer : Int) (x : Rw) : Rw := { x with r := stlR peer x.r }
theorem rd_stl {C : Ctx} {H : Hp} {peer : Int} {x : Rw} (h : Rd C H x) : Rd C H (stlW peer x) := by
  have e : (stlW peer x).r.a = x.r.a := by unfold stlW stlR; dsimp only; split <;> rfl
  exact ⟨by rw [e]; exact h.p, by rw [e]; exact h.c, by rw [e]; exact h.m⟩
section
variable {B0 : Nat} {old : Nat → Option (List Value)} {n : Nat} {H : Hp} {Q : Value → Hp → Prop} {lim : Int} {M : List Rt} {v : Value} {Hs : Hp} {c mb : Nat} {ms : List (Pk × Rw × Nat)}
set_option maxRecDepth 10000
set_option maxHeartbeats 16000000
theorem stale21_ct (peer : Int) (hI : Rib (cx B0 old) lim M v Hs) (hQ : ∀ Hs', Rib (cx B0 old) lim (M.map (stlR peer)) v Hs' → Q (.int .i64 (stlN peer M)) (Hs' ++ H)) :
    CallT (cx B0 old) (acall (cx B0 old) ansP (n + 2)) 21 [v, .int .u32 peer] (Hs ++ H) Q := by
  cases hI with
  | mk p mb c ms Gm hI hR h0 h6 hl =>
  refine call_in2 40 rfl Tryz.func21 rfl rfl ?_
  repeat(refine ZX ?_;try intro _)
  refine rt_step rfl rfl rfl (st_call rfl rfl rfl rfl (valid47_ct h0 ?_))
  repeat(refine ZX ?_;try intro _)
  refine rt_step rfl rfl rfl (st_range rfl hm1 rfl fun it => ?_)
  repeat(refine ZX ?_;try intro _)
  refine loop_ind (ι := List Pk × List Nat × List (Pk × Rw × Nat) × Nat) ([], [], ms, 0) (fun j => ((ms.map (·.1)).filter fun k => decide (k ∉ j.1)).length)
    (fun j => Born j.2.2.1 c ∧ Uq j.2.2.1 ∧ SeenK j.2.2.1 j.1 j.2.1 ∧ (∀ k, lkH j.2.2.1 k = (lkH ms k).map fun x => if k ∈ j.1 then stlW peer x else x) ∧ j.2.2.2 = (ms.filter fun q => decide (q.1 ∈ j.1) && (decide (q.1.peer = peer) && !q.2.1.r.stale)).length ∧ j.2.2.2 ≤ ms.length)
    (fun j => [(5, .int .i64 (j.2.2.2 : Int)), (15, .pointer (some ⟨it, 0, none⟩)), (0, .pointer (some ⟨p, 0, none⟩)), (1, .int .u32 peer)])
    (fun j => (it, .iter (some mb) c j.2.1 c) :: (p, .row [.int .i64 lim, .map (some mb)] 2 false) :: (mb, AObj.map (mkH ekP evW j.2.2.1) c) :: (Gm ++ H)) ⟨hI.born, hI.uq, SeenK.nil _, fun k => by cases lkH ms k <;> simp, (by symm; rw [List.length_eq_zero_iff, List.filter_eq_nil_iff]; simp), Nat.zero_le _⟩ (by repeat (first | exact SubL.nil | refine SubL.cons rfl ?_)) (List.Sublist.refl _) ?_
  rintro ⟨vk, vs, ms1, cn⟩ ⟨hb1, hu1, hsn, hlk, hcn, hcl⟩
  dsimp only at hb1 hu1 hsn hlk hcn hcl ⊢
  repeat(refine ZX ?_;try intro _)
  refine rt_step rfl rfl rfl (st_nextH rfl hm1 hb1 (fun hall => ?_) (fun q hq hnq => ?_))
  · have hv : ∀ k x, lkH ms k = some x → k ∈ vk := fun k x hk => Classical.byContradiction fun hv => by
      have h1 := hlk k
      rw [hk, Option.map_some, if_neg hv] at h1
      obtain ⟨m, hm⟩ := lkH_mem h1
      exact hv ((hsn _ hm).1 (hall _ hm))
    have hI' : RibI ms1 c (M.map (stlR peer)) := hI.chg (plc_stl peer) (ok_stl peer) hb1 hu1 fun k => by
      rw [hlk]
      cases hk : lkH ms k with
      | none => rfl
      | some x => simp only [Option.map_some, if_pos (hv k x hk)]; rfl
    have hc : cn = stlN peer M := by
      have hp := (hI.perm.filter fun r => decide (r.peer = peer) && !r.stale).length_eq
      rw [List.filter_map, List.length_map] at hp
      rw [hcn]
      unfold stlN
      rw [← hp]
      congr 1
      refine List.filter_congr fun q hq => ?_
      have h1 := hI.mem hq
      have h2 : q.1 ∈ vk := hv q.1 q.2.1 (hI.uq.lkH (n := q.2.2) hq)
      have h3 : q.2.1.r.peer = q.1.peer := by rw [← h1.2]; rfl
      simp only [Function.comp, h2, decide_true, Bool.true_and, h3]
    have hR' : ∀ q ∈ ms1, Rd (cx B0 old) Gm q.2.1 := fun q hq => by
      have h1 := hlk q.1
      rw [hu1.lkH (k := q.1) (v := q.2.1) (n := q.2.2) hq] at h1
      obtain ⟨x, hx, e⟩ := Option.map_eq_some_iff.1 h1.symm
      obtain ⟨m, hm⟩ := lkH_mem hx
      rw [← e]
      have := hR _ hm
      dsimp only at this
      split
      · exact rd_stl this
      · exact this
    rw [hc]
    repeat(refine ZX ?_;try intro _)
    exact re_1 rfl rfl (by exact drop_auto) (hQ _ (Rib.mk p mb c ms1 Gm hI' hR' h0 h6 (by rw [List.length_map]; exact hl)))
  obtain ⟨k, x, bo⟩ := q
  dsimp only at hnq ⊢
  have hkv : k ∉ vk := fun h => hnq ((hsn _ hq).2 h)
  have hk1 : lkH ms1 k = some x := hu1.lkH hq
  have hkm : lkH ms k = some x := by
    have h1 := hlk k
    rw [hk1] at h1
    obtain ⟨y, hy, e⟩ := Option.map_eq_some_iff.1 h1.symm
    rw [if_neg hkv] at e
    rw [hy, e]
  obtain ⟨m0, hm0'⟩ := lkH_mem hkm
  have hk0 : k ∈ ms.map (·.1) := List.mem_map.2 ⟨_, hm0', rfl⟩
  have hdec := fltDec hk0 hkv
  have hsn2 := hsn.cons hb1 hu1 hq
  have hstep := cnt_step (vk := vk) (g := fun q => decide (q.1.peer = peer) && !q.2.1.r.stale) (q0 := (k, x, m0)) hkv hI.uq hm0'
  dsimp only at hstep
  rw [← hcn] at hstep
  have hlen : (ms.filter fun q => decide (q.1 ∈ k :: vk) && (decide (q.1.peer = peer) && !q.2.1.r.stale)).length ≤ ms.length := List.length_filter_le _ _
  have hml : ms.length ≤ 65536 := by rw [hI.len]; omega
  have same : stlW peer x = x → ∀ j, lkH ms1 j = (lkH ms j).map fun y => if j ∈ k :: vk then stlW peer y else y := fun hs j => by
    rw [hlk]
    by_cases hjk : j = k
    · subst hjk
      rw [hkm, Option.map_some, Option.map_some, if_neg hkv, if_pos (List.mem_cons_self ..), hs]
    · have : (j ∈ k :: vk) ↔ (j ∈ vk) := by simp [hjk]
      simp only [this]
  unfold ekP evW
  repeat(refine ZX ?_;try intro _)
  refine rt_r rfl rfl rfl (rd_entryH (ek := ekP) (ev := evW) (vs := vs) (p := (k, x, bo)) rfl hm0 hm2 hb1 hq) ?_
  dsimp only
  unfold ekP evW enP enW enR
  repeat' (first | refine Z0 ?_ | (refine ZR ?_; first | refine x1 ?_ | refine x2 ?_ | refine x8 ?_ | refine Z1 ?_ | refine Z2 ?_ | refine x3 fun _ => ?_ | refine x4 fun _ => ?_ | refine x5 fun _ => ?_ | refine Z3 fun _ => ?_ | refine Z4 fun _ => ?_) | refine Za ?_ | refine Zb ?_ | refine Zl ?_ | refine Zc ?_ | refine Ze ?_ | refine Zi ?_ | refine Zj ?_ | refine Zf ?_ | refine Zg ?_ | refine Zm ?_ | refine Zn ?_ | refine Zo ?_ | refine Zp ?_ | refine Zq ?_ | refine Zr ?_ | refine Zk ?_ | refine Y0 ?_ | (refine YP ?_; first | refine y1 ?_ | refine y2 ?_ | refine Y1 ?_ | refine Y2 ?_) | (refine isPlan ?_; refine y3 ?_) | (first | (refine isRun ?_; refine z1 (fun hc => ?_) (fun hc => ?_)) | refine z2 (fun hc => ?_) (fun hc => ?_) | (refine isPlan ?_; refine z3 (fun hc => ?_) (fun hc => ?_))))
  · rename_i hc1
    have hkp : x.r.peer = peer := by
      have h1 := (hI.lkS hkm).2.2
      have h2 : k.peer = x.r.peer := by rw [← h1]; rfl
      rw [← h2]; exact hc1
    have hsx : stlW peer x = { x with r := { x.r with stale := true } } := by unfold stlW stlR; rw [if_pos hkp]
    have hw := upd_there (c := c) (v := ({ x with r := { x.r with stale := true } } : Rw)) hk1
    have hupd := updE_K (C := cx B0 old) (ev := evW) keyMapP ms1 c k ({ x with r := { x.r with stale := true } } : Rw)
    rw [hw.1] at hupd
    have hb2 := hb1.upd (k := k) (v := ({ x with r := { x.r with stale := true } } : Rw))
    rw [hw.1] at hb2
    refine ct_draw (masks := [0, 1, 3, 7, 0, 0, 63]) (plan := [0, 1, 2, 3, 4, 5, 6]) (E := []) (by kernel_rfl) (by kernel_rfl) (by kernel_rfl) (by kernel_rfl) ?_
    repeat refine YX ?_
    refine pl_S0 rfl rfl rfl rfl rfl (st_update rfl rfl rfl hupd sw4 ⟨by exact rec_auto, ?_⟩)
    repeat refine YX ?_
    repeat(refine ZX ?_;try intro _)
    have hcond : (decide (k.peer = peer) && !x.r.stale) = true := by rw [hc, decide_eq_true hc1]; rfl
    rw [if_pos hcond] at hstep
    refine ⟨(k :: vk, vs ++ [bo], updH ms1 c k { x with r := { x.r with stale := true } }, cn + 1), ⟨hb2, hu1.upd, hsn2.upd hk1, fun j => ?_, hstep.symm, by dsimp only; omega⟩, hdec, by repeat (first | exact SubL.nil | refine SubL.cons rfl ?_), by exact drop_auto⟩
    dsimp only
    rw [lkH_upd hu1]
    by_cases hjk : j = k
    · subst hjk
      rw [if_pos rfl, hkm, Option.map_some, if_pos (List.mem_cons_self ..), hsx]
    · rw [if_neg hjk, hlk]
      have : (j ∈ k :: vk) ↔ (j ∈ vk) := by simp [hjk]
      simp only [this]
  · rename_i hc1
    have hsx : stlW peer x = x := by
      obtain ⟨⟨rn, ra, rp, rs⟩, ap, cp, ac, cc, am, cm⟩ := x
      dsimp only at hc
      subst hc
      unfold stlW stlR; dsimp only; split <;> rfl
    have hcond : ¬ (decide (k.peer = peer) && !x.r.stale) = true := by rw [hc]; simp
    rw [if_neg hcond] at hstep
    exact ⟨(k :: vk, vs ++ [bo], ms1, cn), ⟨hb1, hu1, hsn2, same hsx, hstep.symm, hcl⟩, hdec, by repeat (first | exact SubL.nil | refine SubL.cons rfl ?_), by exact drop_auto⟩
  · have hkp : x.r.peer ≠ peer := by
      have h1 := (hI.lkS hkm).2.2
      have h2 : k.peer = x.r.peer := by rw [← h1]; rfl
      rw [← h2]; exact hc
    have hsx : stlW peer x = x := by unfold stlW stlR; rw [if_neg hkp]
    have hcond : ¬ (decide (k.peer = peer) && !x.r.stale) = true := by rw [decide_eq_false hc]; simp
    rw [if_neg hcond] at hstep
    exact ⟨(k :: vk, vs ++ [bo], ms1, cn), ⟨hb1, hu1, hsn2, same hsx, hstep.symm, hcl⟩, hdec, by repeat (first | exact SubL.nil | refine SubL.cons rfl ?_), by exact drop_auto⟩
end
end Go.Proofs.YtphadapcafibpaaGreat.Abs

/- Lists of routes in memory: SameRoutes, LightRoutes. -/
namespace Go.Proofs.YtphadapcafibpaaGreat.Abs
open Go
set_option linter.unusedVariables false
/-- A list of routes that is read. -/
def RsA (C : Ctx) (H : Hp) (M : List Rt) (v : Value) : Prop := ∃ L ad c, v = .slice ad L.length c ∧ ArrW C H ad 38 enW L ∧ (∀ x ∈ L, Rd C H x) ∧ L.map (·.r) = M
/-- A list of routes that the run has made, and the memory that holds it. -/
def RsL (C : Ctx) (M : List Rt) (v : Value) (G : Hp) : Prop := ∃ L Gs Gr, Own enW 38 L v Gs ∧ (∀ x ∈ L, Rd C Gr x) ∧ L.map (·.r) = M ∧ G = Gs ++ Gr
theorem RsA.weak {C : Ctx} {H H' : Hp} {M : List Rt} {v : Value} (h : RsA C H M v) (hs : H.Sublist H') : RsA C H' M v :=
  let ⟨L, ad, c, h1, h2, h3, h4⟩ := h; ⟨L, ad, c, h1, h2.weak hs, fun x hx => (h3 x hx).weak hs, h4⟩
theorem RsL.toA {C : Ctx} {G : Hp} {M : List Rt} {v : Value} (h : RsL C M v G) : RsA C G M v := by
  obtain ⟨L, Gs, Gr, h1, h2, h3, rfl⟩ := h
  obtain ⟨ad, c, e, hw⟩ := h1.arrW (C := C) enW_len
  exact ⟨L, ad, c, e, hw [] Gr, fun x hx => (h2 x hx).weak (List.sublist_append_right _ _), h3⟩
theorem RsL.nil {C : Ctx} : RsL C [] (.slice none 0 0) [] := ⟨[], [], [], .nil, fun x h => (by cases h), rfl, rfl⟩
/-- Short lists, as the statements want them. -/
def ltR (r : Rt) : Prop := r.a.path.length ≤ 40 ∧ r.a.clus.length ≤ 20 ∧ r.a.comms.length ≤ 80
theorem ltR.light {r : Rt} (h : ltR r) : r.a.light := by unfold ltR at h; unfold RtA.light; omega
section
variable {B0 : Nat} {old : Nat → Option (List Value)} {n : Nat} {H : Hp} {Q : Value → Hp → Prop}
set_option maxRecDepth 10000
set_option maxHeartbeats 8000000
theorem sames14_ct {M1 M2 : List Rt} {v w : Value} (h1 : RsA (cx B0 old) H M1 v) (h2 : RsA (cx B0 old) H M2 w) (hl : M1.length ≤ 100000) (hr : ∀ r ∈ M1, r.a.light) (hQ : ∀ t : Bool, (t = true ↔ M1 = M2) → Q (.bool t) H) :
    CallT (cx B0 old) (acall (cx B0 old) ansP (n + 4)) 14 [v, w] H Q := by
  obtain ⟨L, ad, c, rfl, hw1, hd1, rfl⟩ := h1
  obtain ⟨K, ad2, c2, rfl, hw2, hd2, rfl⟩ := h2
  have hno : L.map (·.r) ≠ K.map (·.r) → Q (.bool false) H := fun h => hQ false ⟨fun h => (by cases h), fun e => absurd e h⟩
  rw [List.length_map] at hl
  refine call_in2 27 rfl Tryz.func14 rfl rfl ?_
  repeat(refine ZX ?_;try intro _)
  first | (refine isRun ?_; refine z1 (fun hc => ?_) (fun hc => ?_)) | refine z2 (fun hc => ?_) (fun hc => ?_) | (refine isPlan ?_; refine z3 (fun hc => ?_) (fun hc => ?_))
  · repeat(refine ZX ?_;try intro _)
    exact re_1 rfl rfl (by exact drop_auto) (hno fun e => hc (by have := congrArg List.length e; simp only [List.length_map] at this; omega))
  repeat(refine ZX ?_;try intro _)
  refine loop_ind (ι := Nat) 0 (fun i => L.length - i) (fun i => i ≤ L.length ∧ (L.map (·.r)).take i = (K.map (·.r)).take i) (fun i => [(5, .int .i64 (i : Int)), (0, .slice ad L.length c), (1, .slice ad2 K.length c2)]) (fun _ => H) ⟨Nat.zero_le _, rfl⟩ (by repeat (first | exact SubL.nil | refine SubL.cons rfl ?_)) (by exact drop_auto) ?_
  rintro i ⟨hi, htk⟩
  repeat(refine ZX ?_;try intro _)
  refine ct_condT te_d rfl (fun hlt => ?_) (fun hlt => ?_)
  · obtain ⟨x, hx⟩ : ∃ x, L[i]? = some x := ⟨_, List.getElem?_eq_getElem (by omega)⟩
    obtain ⟨y, hy⟩ : ∃ y, K[i]? = some y := ⟨_, List.getElem?_eq_getElem (by omega)⟩
    obtain ⟨b1, o1, rfl, hL0⟩ := (hw1.arr enW_len).ldW 52 hx rfl (sz rfl)
    obtain ⟨b2, o2, rfl, hL1⟩ := (hw2.arr enW_len).ldW 52 hy rfl (sz rfl)
    have hxm := List.mem_of_getElem? hx
    have hym := List.mem_of_getElem? hy
    have hxl := hr x.r (List.mem_map_of_mem hxm)
    unfold RtA.light at hxl
    repeat(refine ZX ?_;try intro _)
    refine ct_draw (masks := [0, 0, 3, 7, 0, 0, 48, 112, 255, 511]) (plan := [0, 1, 2, 3, 4, 5, 6, 7, 8, 9]) (E := []) (by kernel_rfl) (by kernel_rfl) (by kernel_rfl) (by kernel_rfl) ?_
    repeat refine YX ?_
    refine pl_S rfl rfl rfl rfl rfl rfl (st_call rfl rfl rfl rfl (same30_ct x y (by omega) (hd1 x hxm) (hd2 y hym) fun t ht => ⟨by exact rec_auto, ?_⟩))
    repeat refine YX ?_
    repeat(refine ZX ?_;try intro _)
    cases t with
    | false =>
      repeat(refine ZX ?_;try intro _)
      refine re_1 rfl rfl (by exact drop_auto) (hno fun e => ?_)
      have h1 : (L.map (·.r))[i]? = some x.r := by rw [List.getElem?_map, hx]; rfl
      have h2 : (K.map (·.r))[i]? = some y.r := by rw [List.getElem?_map, hy]; rfl
      rw [e, h2] at h1
      have := ht.2 (Option.some.inj h1).symm
      cases this
    | true =>
      repeat(refine ZX ?_;try intro _)
      refine ⟨i + 1, ⟨by omega, ?_⟩, by omega, by repeat (first | exact SubL.nil | refine SubL.cons rfl ?_), by exact drop_auto⟩
      have h1 : (L.map (·.r))[i]? = some x.r := by rw [List.getElem?_map, hx]; rfl
      have h2 : (K.map (·.r))[i]? = some y.r := by rw [List.getElem?_map, hy]; rfl
      rw [List.take_add_one, List.take_add_one, htk, h1, h2, ht.1 rfl]
  · have hi' : i = L.length := by omega
    subst hi'
    rw [List.take_of_length_le (by rw [List.length_map]; exact Nat.le_refl _), List.take_of_length_le (by rw [List.length_map]; omega)] at htk
    repeat(refine ZX ?_;try intro _)
    exact re_1 rfl rfl (by exact drop_auto) (hQ true ⟨fun _ => htk, fun _ => rfl⟩)
theorem light27_ct (x : Rw) (hQ : ∀ t : Bool, (t = true ↔ ltR x.r) → Q (.bool t) H) : CallT (cx B0 old) (acall (cx B0 old) ansP (n + 1)) 27 [.agg ⟨enW x⟩] H Q := by
  refine call_in1 22 rfl Tryz.func27 rfl rfl ?_
  unfold enW enR
  unfold ltR at hQ
  repeat' (first | refine Z0 ?_ | (refine ZR ?_; first | refine x1 ?_ | refine x2 ?_ | refine x8 ?_ | refine Z1 ?_ | refine Z2 ?_ | refine x3 fun _ => ?_ | refine x4 fun _ => ?_ | refine x5 fun _ => ?_ | refine Z3 fun _ => ?_ | refine Z4 fun _ => ?_) | refine Za ?_ | refine Zb ?_ | refine Zl ?_ | refine Zc ?_ | refine Ze ?_ | refine Zi ?_ | refine Zj ?_ | refine Zf ?_ | refine Zg ?_ | refine Zm ?_ | refine Zn ?_ | refine Zo ?_ | refine Zp ?_ | refine Zq ?_ | refine Zr ?_ | refine Zk ?_ | refine Y0 ?_ | (refine YP ?_; first | refine y1 ?_ | refine y2 ?_ | refine Y1 ?_ | refine Y2 ?_) | (refine isPlan ?_; refine y3 ?_) | (first | (refine isRun ?_; refine z1 (fun hc => ?_) (fun hc => ?_)) | refine z2 (fun hc => ?_) (fun hc => ?_) | (refine isPlan ?_; refine z3 (fun hc => ?_) (fun hc => ?_))))
  all_goals refine re_1 (H' := H) rfl rfl (by exact drop_auto) (hQ _ ?_)
  · simp only [decide_eq_true_eq]; omega
  · exact ⟨fun h => (by cases h), fun h => by omega⟩
  · exact ⟨fun h => (by cases h), fun h => by omega⟩
theorem lights18_ct {L : List Rw} {ad : Option Addr} {c : Nat} (mo : Int) (hw : Arr (cx B0 old) H ad 38 enW L) (hl : L.length ≤ 9223372036854775807) (hQ : ∀ t : Bool, (t = true ↔ (∀ x ∈ L, ltR x.r) ∧ (L.length : Int) ≤ mo) → Q (.bool t) H) :
    CallT (cx B0 old) (acall (cx B0 old) ansP (n + 2)) 18 [.slice ad L.length c, .int .i64 mo] H Q := by
  refine call_in2 22 rfl Tryz.func18 rfl rfl ?_
  repeat(refine ZX ?_;try intro _)
  refine loop_ind (ι := Nat) 0 (fun i => L.length - i) (fun i => i ≤ L.length ∧ ∀ x ∈ L.take i, ltR x.r) (fun i => [(5, .int .i64 (i : Int)), (0, .slice ad L.length c), (1, .int .i64 mo)]) (fun _ => H) ⟨Nat.zero_le _, fun x h => (by cases h)⟩ (by repeat (first | exact SubL.nil | refine SubL.cons rfl ?_)) (by exact drop_auto) ?_
  rintro i ⟨hi, htk⟩
  repeat(refine ZX ?_;try intro _)
  refine ct_condT te_d rfl (fun hlt => ?_) (fun hlt => ?_)
  · obtain ⟨x, hx⟩ : ∃ x, L[i]? = some x := ⟨_, List.getElem?_eq_getElem (by omega)⟩
    obtain ⟨b1, o1, rfl, hL0⟩ := hw.ldW 52 hx rfl (sz rfl)
    repeat(refine ZX ?_;try intro _)
    refine rt_step rfl rfl rfl (st_call rfl rfl rfl rfl (light27_ct x fun t ht => ?_))
    cases t with
    | false =>
      repeat(refine ZX ?_;try intro _)
      exact re_1 rfl rfl (by exact drop_auto) (hQ false ⟨fun h => (by cases h), fun h => ht.2 (h.1 x (List.mem_of_getElem? hx))⟩)
    | true =>
      repeat(refine ZX ?_;try intro _)
      refine ⟨i + 1, ⟨by omega, fun y hy => ?_⟩, by omega, by repeat (first | exact SubL.nil | refine SubL.cons rfl ?_), by exact drop_auto⟩
      rw [List.take_add_one, hx] at hy
      rcases List.mem_append.1 hy with h | h
      · exact htk y h
      · rw [List.mem_singleton.1 h]; exact ht.1 rfl
  · have hi' : i = L.length := by omega
    subst hi'
    rw [List.take_length] at htk
    repeat(refine ZX ?_;try intro _)
    refine re_1 rfl rfl (by exact drop_auto) (hQ _ ?_)
    rw [decide_eq_true_eq]
    exact ⟨fun h => ⟨htk, h⟩, fun h => h.2⟩
/-- Pick. -/
def pkF (x m : Int) : Int := if x.tmod m < 0 then x.tmod m + m else x.tmod m
theorem pkF_range {x m : Int} (h : 0 < m) : 0 ≤ pkF x m ∧ pkF x m < m := by
  have h1 := Int.tmod_lt_of_pos x h
  have h2 := Int.lt_tmod_of_pos x h
  unfold pkF
  split <;> omega
theorem pick26_ct (x m : Int) (h0 : 0 < m) (hm : m ≤ 1000000) (hQ : Q (.int .i64 (pkF x m)) H) : CallT (cx B0 old) (acall (cx B0 old) ansP (n + 1)) 26 [.int .i64 x, .int .i64 m] H Q := by
  refine call_in2 14 rfl Tryz.func26 rfl rfl ?_
  have h1 := Int.tmod_lt_of_pos x h0
  have h2 := Int.lt_tmod_of_pos x h0
  unfold pkF at hQ
  repeat(refine ZX ?_;try intro _)
  apply rt_p rfl rfl rfl
  case hp => exact p_rem rfl rfl (by omega)
  generalize x.tmod m = r at *
  repeat(refine ZX ?_;try intro _)
  refine ct_condT te_d rfl (fun hc => ?_) (fun hc => ?_)
  · rw [if_pos hc] at hQ
    repeat(refine ZX ?_;try intro _)
    exact re_1 rfl rfl (List.Sublist.refl _) hQ
  · rw [if_neg hc] at hQ
    repeat(refine ZX ?_;try intro _)
    exact re_1 rfl rfl (List.Sublist.refl _) hQ
end
end Go.Proofs.YtphadapcafibpaaGreat.Abs
