/- Plain laws: what the reference makes of a value, and that it is what the program makes of it. -/
import Derived.Test.YtjdppdoakbojcaaNz
import Derived.Test.YtjdppdoakbojcaaRc
namespace Go.Proofs.Ytjdppdoakbojcaa.Abs
open Go
set_option linter.unusedVariables false
def tk (L : List Int) (p k : Nat) : Int := if p + k ≤ L.length then ((num (sub L p k) : Nat) : Int) else 0
theorem tk_lt {L : List Int} (hy : ∀ y ∈ L, isY y) (p k : Nat) : 0 ≤ tk L p k ∧ tk L p k < ((256 ^ k : Nat) : Int) := by
  have h1 := num_subk hy p k
  have h2 : 0 < 256 ^ k := Nat.pow_pos (by decide)
  unfold tk
  split <;> omega
theorem At.tk {L R : List Int} {p k : Nat} {v : Int} (h : At L ⟨p, false⟩ (Abs.be v.toNat k ++ R)) (h0 : 0 ≤ v) (hv : v < 256 ^ k) : tk L p k = v ∧ At L ⟨p + k, false⟩ R := by
  obtain ⟨e, h2⟩ := h.int h0 hv
  have hl : (L.drop p).length = L.length - p := List.length_drop
  rw [h.dr, List.length_append, be_len] at hl
  have hle := h.le
  dsimp only at hle
  have hok : rdOk L ⟨p, false⟩ k = true := by unfold rdOk; simp; omega
  unfold rdV at e
  unfold rdN at h2
  rw [hok, if_pos rfl] at e h2
  unfold Abs.tk
  rw [if_pos (by omega)]
  exact ⟨e, h2⟩
theorem At.tk1 {L R : List Int} {p : Nat} {v : Nat} (h : At L ⟨p, false⟩ (Abs.be v 1 ++ R)) (hv : v < 256) : Abs.tk L p 1 = v ∧ At L ⟨p + 1, false⟩ R := by
  have := At.tk (v := (v : Int)) (k := 1) (by rw [Int.toNat_natCast]; exact h) (by omega) (by omega)
  exact this
theorem At.end' {L : List Int} {p : Nat} (h : At L ⟨p, false⟩ []) : p = L.length := congrArg Rs.p h.fin
theorem At.es {L R : List Int} {x : S60} (h : At L ⟨8, false⟩ (esL x ++ R)) : 18 ≤ L.length ∧ sub L 8 10 = esL x ∧ At L ⟨18, false⟩ R := by
  obtain ⟨e, h2⟩ := h.ten
  have hl : (L.drop 8).length = L.length - 8 := List.length_drop
  rw [h.dr, List.length_append, esL_len] at hl
  have hok : rdOk L ⟨8, false⟩ 10 = true := by unfold rdOk; simp; omega
  unfold rdE at e
  unfold rdN at h2
  rw [hok, if_pos rfl] at e h2
  exact ⟨by omega, e, h2⟩
/-- Where the tag is. -/
def tgP (k : Int) (L : List Int) : Nat := if 18 ≤ L.length ∧ k ≠ 3 then 18 else 8
/-- Where the rest is. -/
def rsP (k : Int) (L : List Int) : Nat := if k ≠ 4 then tgP k L + 4 else tgP k L
def refH (k : Int) (L : List Int) : S60 := { kS k with a1 := tk L 0 8, a2 := if 18 ≤ L.length ∧ k ≠ 3 then (sub L 8 10).getD 0 0 else 0, a3 := if 18 ≤ L.length ∧ k ≠ 3 then (sub L 8 10).getD 1 0 else 0, a4 := if 18 ≤ L.length ∧ k ≠ 3 then (sub L 8 10).getD 2 0 else 0, a5 := if 18 ≤ L.length ∧ k ≠ 3 then (sub L 8 10).getD 3 0 else 0, a6 := if 18 ≤ L.length ∧ k ≠ 3 then (sub L 8 10).getD 4 0 else 0, a7 := if 18 ≤ L.length ∧ k ≠ 3 then (sub L 8 10).getD 5 0 else 0, a8 := if 18 ≤ L.length ∧ k ≠ 3 then (sub L 8 10).getD 6 0 else 0, a9 := if 18 ≤ L.length ∧ k ≠ 3 then (sub L 8 10).getD 7 0 else 0, a10 := if 18 ≤ L.length ∧ k ≠ 3 then (sub L 8 10).getD 8 0 else 0, a11 := if 18 ≤ L.length ∧ k ≠ 3 then (sub L 8 10).getD 9 0 else 0, a12 := if k ≠ 4 then tk L (tgP k L) 4 else 0 }
/-- Where the labels of a kind are. -/
def lbP (L : List Int) (p : Nat) : Nat := if tk L (p + 8 - 1) 1 = 32 then p + 8 + 4 else p + 8
def refV (k : Int) (L : List Int) : S60 :=
  if k = 1 then { refH k L with a19 := tk L (rsP k L) 3 }
  else if k = 2 then { refH k L with a13 := tk L (rsP k L + 1) 6, a15 := tk L (rsP k L + 8 - 1) 1 == 32, a14 := if tk L (rsP k L + 8 - 1) 1 = 32 then tk L (rsP k L + 8) 4 else 0, a19 := tk L (lbP L (rsP k L)) 3, a20 := tk L (lbP L (rsP k L) + 3) 3 }
  else if k = 5 then { refH k L with a16 := tk L (rsP k L + 1) 4, a17 := tk L (rsP k L) 1, a18 := tk L (rsP k L + 5) 4, a19 := tk L (rsP k L + 9) 3 }
  else { refH k L with a14 := tk L (rsP k L + 1) 4, a15 := true }
theorem es_Y {L : List Int} (hy : ∀ y ∈ L, isY y) (i : Nat) : 0 ≤ (sub L 8 10).getD i 0 ∧ (sub L 8 10).getD i 0 ≤ 255 := by
  rw [List.getD_eq_getElem?_getD]
  cases h : (sub L 8 10)[i]? with
  | none => decide
  | some y =>
    have := sub_Y hy 8 10 y (List.mem_of_getElem? h)
    unfold isY at this
    show 0 ≤ y ∧ y ≤ 255
    omega
theorem ite_Y {c : Prop} [Decidable c] {a : Int} {N : Int} (h : 0 ≤ a ∧ a ≤ N) : 0 ≤ (if c then a else 0) ∧ (if c then a else 0) ≤ N := by split <;> omega
theorem refV_wf {L : List Int} {k : Int} (hy : ∀ y ∈ L, isY y) (hk : 0 ≤ k ∧ k ≤ 255) : (refV k L).wf := by
  have t8 := tk_lt hy 0 8

  have e0 := ite_Y (c := 18 ≤ L.length ∧ k ≠ 3) (es_Y hy 0)
  have e1 := ite_Y (c := 18 ≤ L.length ∧ k ≠ 3) (es_Y hy 1)
  have e2 := ite_Y (c := 18 ≤ L.length ∧ k ≠ 3) (es_Y hy 2)
  have e3 := ite_Y (c := 18 ≤ L.length ∧ k ≠ 3) (es_Y hy 3)
  have e4 := ite_Y (c := 18 ≤ L.length ∧ k ≠ 3) (es_Y hy 4)
  have e5 := ite_Y (c := 18 ≤ L.length ∧ k ≠ 3) (es_Y hy 5)
  have e6 := ite_Y (c := 18 ≤ L.length ∧ k ≠ 3) (es_Y hy 6)
  have e7 := ite_Y (c := 18 ≤ L.length ∧ k ≠ 3) (es_Y hy 7)
  have e8 := ite_Y (c := 18 ≤ L.length ∧ k ≠ 3) (es_Y hy 8)
  have e9 := ite_Y (c := 18 ≤ L.length ∧ k ≠ 3) (es_Y hy 9)
  have t4 := tk_lt hy (tgP k L) 4
  have a1 := tk_lt hy (rsP k L) 3
  have a2 := tk_lt hy (rsP k L + 1) 6
  have a3 := tk_lt hy (rsP k L + 8) 4
  have a4 := tk_lt hy (lbP L (rsP k L)) 3
  have a5 := tk_lt hy (lbP L (rsP k L) + 3) 3
  have a6 := tk_lt hy (rsP k L + 1) 4
  have a7 := tk_lt hy (rsP k L) 1
  have a8 := tk_lt hy (rsP k L + 5) 4
  have a9 := tk_lt hy (rsP k L + 9) 3
  have u1 := ite_Y (c := k ≠ 4) (a := tk L (tgP k L) 4) (N := 4294967295) (by omega)
  have u2 := ite_Y (c := tk L (rsP k L + 8 - 1) 1 = 32) (a := tk L (rsP k L + 8) 4) (N := 4294967295) (by omega)
  unfold refV
  split
  · unfold refH kS zS S60.wf; dsimp only; omega
  split
  · unfold refH kS zS S60.wf; dsimp only; omega
  split
  · unfold refH kS zS S60.wf; dsimp only; omega
  · unfold refH kS zS S60.wf; dsimp only; omega

theorem refH_es {x : S60} {k : Int} {L R : List Int} (hk : k ≠ 3) (h : At L ⟨8, false⟩ (esL x ++ R)) : (∀ y : S60, y = refH k L → y.a2 = x.a2 ∧ y.a3 = x.a3 ∧ y.a4 = x.a4 ∧ y.a5 = x.a5 ∧ y.a6 = x.a6 ∧ y.a7 = x.a7 ∧ y.a8 = x.a8 ∧ y.a9 = x.a9 ∧ y.a10 = x.a10 ∧ y.a11 = x.a11) ∧ tgP k L = 18 ∧ At L ⟨18, false⟩ R := by
  obtain ⟨h1, h2, h3⟩ := h.es
  refine ⟨fun y hy => ?_, if_pos ⟨h1, hk⟩, h3⟩
  subst hy
  unfold refH
  dsimp only
  simp only [if_pos (show 18 ≤ L.length ∧ k ≠ 3 from ⟨h1, hk⟩), h2]
  exact ⟨rfl, rfl, rfl, rfl, rfl, rfl, rfl, rfl, rfl, rfl⟩
theorem tk_end {L : List Int} {p k : Nat} (h : At L ⟨p, false⟩ []) (hk : 0 < k) : tk L p k = 0 := by
  have := h.end'
  unfold tk
  rw [if_neg (by omega)]
theorem refV_V {x : S60} (hw : x.wf) (ok : NlOk x) : refV x.a0 (nlV x) = x := by
  have hk := ok.kind
  have hr := ok.rng
  have hx : onlyS x = x := leaf60_eq ok.form
  have hs := At.start (nlV x)
  have hw' := hw
  unfold S60.wf at hw'
  rcases (by omega : x.a0 = 1 ∨ x.a0 = 2 ∨ x.a0 = 3 ∨ x.a0 = 4 ∨ x.a0 = 5) with h | h | h | h | h
  · have hf := only_1 h hx
    have hV : nlV x = be x.a1.toNat 8 ++ (esL x ++ (be x.a12.toNat 4 ++ (be x.a19.toNat 3 ++ []))) := by rw [nlV1 h]; simp only [List.append_nil]
    generalize nlV x = V at *
    have h0 : At V ⟨0, false⟩ (be x.a1.toNat 8 ++ (esL x ++ (be x.a12.toNat 4 ++ (be x.a19.toNat 3 ++ [])))) := by rw [← hV]; exact hs
    obtain ⟨e1, h1⟩ := h0.tk (by omega) (by omega)
    obtain ⟨e2, et, h2⟩ := refH_es (k := x.a0) (by omega) h1
    obtain ⟨e3, h3⟩ := h2.tk (by omega) (by omega)
    obtain ⟨e4, h4⟩ := h3.tk (by omega) (by omega)
    have er : rsP x.a0 V = 22 := by unfold rsP; rw [if_pos (by omega), et]
    have e2 := e2 _ rfl
    unfold refV
    rw [if_pos h, er]
    refine S60_ext rfl e1 e2.1 e2.2.1 e2.2.2.1 e2.2.2.2.1 e2.2.2.2.2.1 e2.2.2.2.2.2.1 e2.2.2.2.2.2.2.1 e2.2.2.2.2.2.2.2.1 e2.2.2.2.2.2.2.2.2.1 e2.2.2.2.2.2.2.2.2.2 ?_ hf.1 hf.2.1 hf.2.2.1 hf.2.2.2.1 hf.2.2.2.2.1 hf.2.2.2.2.2.1 e4 hf.2.2.2.2.2.2
    show (if x.a0 ≠ 4 then _ else _) = _
    rw [if_pos (by omega), et, e3]
  · have hf := only_2 h hx
    have hV : nlV x = be x.a1.toNat 8 ++ (esL x ++ (be x.a12.toNat 4 ++ (be 48 1 ++ (be x.a13.toNat 6 ++ ((if x.a15 then be 32 1 ++ be x.a14.toNat 4 else be 0 1) ++ (be x.a19.toNat 3 ++ ((if x.a20 ≠ 0 then be x.a20.toNat 3 else []) ++ []))))))) := by rw [nlV2 h]; simp only [List.append_nil]
    generalize nlV x = V at *
    have h0 : At V ⟨0, false⟩ (be x.a1.toNat 8 ++ (esL x ++ (be x.a12.toNat 4 ++ (be 48 1 ++ (be x.a13.toNat 6 ++ ((if x.a15 then be 32 1 ++ be x.a14.toNat 4 else be 0 1) ++ (be x.a19.toNat 3 ++ ((if x.a20 ≠ 0 then be x.a20.toNat 3 else []) ++ [])))))))) := by rw [← hV]; exact hs
    obtain ⟨e1, h1⟩ := h0.tk (by omega) (by omega)
    obtain ⟨e2, et, h2⟩ := refH_es (k := x.a0) (by omega) h1
    obtain ⟨e3, h3⟩ := h2.tk (by omega) (by omega)
    have h4 := (h3.tk1 (by decide)).2
    obtain ⟨e5, h5⟩ := h4.tk (by omega) (by omega)
    have er : rsP x.a0 V = 22 := by unfold rsP; rw [if_pos (by omega), et]
    have e2 := e2 _ rfl
    have hl2 : ∀ p, At V ⟨p, false⟩ ((if x.a20 ≠ 0 then be x.a20.toNat 3 else []) ++ []) → tk V p 3 = x.a20 := fun p hp => by
      by_cases hd : x.a20 = 0
      · rw [if_neg (fun g => g hd)] at hp
        rw [tk_end hp (by decide), hd]
      · rw [if_pos hd] at hp
        exact (hp.tk (by omega) (by omega)).1
    unfold refV
    rw [if_neg (by omega), if_pos h, er]
    have e12 : (if x.a0 ≠ 4 then tk V (tgP x.a0 V) 4 else 0) = x.a12 := by rw [if_pos (by omega), et, e3]
    cases hb : x.a15 with
    | true =>
      rw [hb, if_pos rfl, List.append_assoc] at h5
      obtain ⟨e6, h6⟩ := h5.tk1 (by decide)
      obtain ⟨e7, h7⟩ := h6.tk (by omega) (by omega)
      obtain ⟨e8, h8⟩ := h7.tk (by omega) (by omega)
      have e9 := hl2 _ h8
      have e6 : tk V (22 + 8 - 1) 1 = 32 := e6
      have el : lbP V 22 = 34 := by unfold lbP; rw [if_pos e6]
      rw [el, e6]
      refine S60_ext rfl e1 e2.1 e2.2.1 e2.2.2.1 e2.2.2.2.1 e2.2.2.2.2.1 e2.2.2.2.2.2.1 e2.2.2.2.2.2.2.1 e2.2.2.2.2.2.2.2.1 e2.2.2.2.2.2.2.2.2.1 e2.2.2.2.2.2.2.2.2.2 e12 e5 e7 hb.symm hf.2.1 hf.2.2.1 hf.2.2.2 e8 e9
    | false =>
      rw [hb, if_neg (by decide)] at h5
      obtain ⟨e6, h6⟩ := h5.tk1 (by decide)
      obtain ⟨e8, h8⟩ := h6.tk (by omega) (by omega)
      have e9 := hl2 _ h8
      have e6 : tk V (22 + 8 - 1) 1 = 0 := e6
      have h14 : 0 = x.a14 := by have := hf.1; rw [hb] at this; exact this
      have el : lbP V 22 = 30 := by unfold lbP; rw [if_neg (by omega)]
      rw [el, e6]
      refine S60_ext rfl e1 e2.1 e2.2.1 e2.2.2.1 e2.2.2.2.1 e2.2.2.2.2.1 e2.2.2.2.2.2.1 e2.2.2.2.2.2.2.1 e2.2.2.2.2.2.2.2.1 e2.2.2.2.2.2.2.2.2.1 e2.2.2.2.2.2.2.2.2.2 e12 e5 h14 hb.symm hf.2.1 hf.2.2.1 hf.2.2.2 e8 e9
  · have hf := only_3 h hx
    have hV : nlV x = be x.a1.toNat 8 ++ (be x.a12.toNat 4 ++ (be 32 1 ++ (be x.a14.toNat 4 ++ []))) := by rw [nlV3 h]; simp only [List.append_nil]
    generalize nlV x = V at *
    have h0 : At V ⟨0, false⟩ (be x.a1.toNat 8 ++ (be x.a12.toNat 4 ++ (be 32 1 ++ (be x.a14.toNat 4 ++ [])))) := by rw [← hV]; exact hs
    obtain ⟨e1, h1⟩ := h0.tk (by omega) (by omega)
    obtain ⟨e2, h2⟩ := h1.tk (by omega) (by omega)
    obtain ⟨e3, h3⟩ := h2.tk1 (by decide)
    obtain ⟨e4, h4⟩ := h3.tk (by omega) (by omega)
    have et : tgP x.a0 V = 8 := by unfold tgP; rw [if_neg (fun g => g.2 h)]
    have er : rsP x.a0 V = 12 := by unfold rsP; rw [if_pos (by omega), et]
    have ee : ∀ i, (if 18 ≤ V.length ∧ x.a0 ≠ 3 then (sub V 8 10).getD i 0 else 0) = 0 := fun i => if_neg (fun g => g.2 h)
    unfold refV
    rw [if_neg (by omega), if_neg (by omega), if_neg (by omega), er]
    refine S60_ext rfl e1 ((ee 0).trans hf.1) ((ee 1).trans hf.2.1) ((ee 2).trans hf.2.2.1) ((ee 3).trans hf.2.2.2.1) ((ee 4).trans hf.2.2.2.2.1) ((ee 5).trans hf.2.2.2.2.2.1) ((ee 6).trans hf.2.2.2.2.2.2.1) ((ee 7).trans hf.2.2.2.2.2.2.2.1) ((ee 8).trans hf.2.2.2.2.2.2.2.2.1) ((ee 9).trans hf.2.2.2.2.2.2.2.2.2.1) ?_ hf.2.2.2.2.2.2.2.2.2.2.1 e4 hf.2.2.2.2.2.2.2.2.2.2.2.1 hf.2.2.2.2.2.2.2.2.2.2.2.2.1 hf.2.2.2.2.2.2.2.2.2.2.2.2.2.1 hf.2.2.2.2.2.2.2.2.2.2.2.2.2.2.1 hf.2.2.2.2.2.2.2.2.2.2.2.2.2.2.2.1 hf.2.2.2.2.2.2.2.2.2.2.2.2.2.2.2.2
    show (if x.a0 ≠ 4 then _ else _) = _
    rw [if_pos (by omega), et, e2]
  · have hf := only_4 h hx
    have hV : nlV x = be x.a1.toNat 8 ++ (esL x ++ (be 32 1 ++ (be x.a14.toNat 4 ++ []))) := by rw [nlV4 h]; simp only [List.append_nil]
    generalize nlV x = V at *
    have h0 : At V ⟨0, false⟩ (be x.a1.toNat 8 ++ (esL x ++ (be 32 1 ++ (be x.a14.toNat 4 ++ [])))) := by rw [← hV]; exact hs
    obtain ⟨e1, h1⟩ := h0.tk (by omega) (by omega)
    obtain ⟨e2, et, h2⟩ := refH_es (k := x.a0) (by omega) h1
    obtain ⟨e3, h3⟩ := h2.tk1 (by decide)
    obtain ⟨e4, h4⟩ := h3.tk (by omega) (by omega)
    have er : rsP x.a0 V = 18 := by unfold rsP; rw [if_neg (fun g => g h), et]
    have e2 := e2 _ rfl
    unfold refV
    rw [if_neg (by omega), if_neg (by omega), if_neg (by omega), er]
    refine S60_ext rfl e1 e2.1 e2.2.1 e2.2.2.1 e2.2.2.2.1 e2.2.2.2.2.1 e2.2.2.2.2.2.1 e2.2.2.2.2.2.2.1 e2.2.2.2.2.2.2.2.1 e2.2.2.2.2.2.2.2.2.1 e2.2.2.2.2.2.2.2.2.2 ?_ hf.2.1 e4 hf.2.2.1 hf.2.2.2.1 hf.2.2.2.2.1 hf.2.2.2.2.2.1 hf.2.2.2.2.2.2.1 hf.2.2.2.2.2.2.2
    show (if x.a0 ≠ 4 then _ else _) = _
    rw [if_neg (fun g => g h)]
    exact hf.1
  · have hf := only_5 h hx
    have hV : nlV x = be x.a1.toNat 8 ++ (esL x ++ (be x.a12.toNat 4 ++ (be x.a17.toNat 1 ++ (be x.a16.toNat 4 ++ (be x.a18.toNat 4 ++ (be x.a19.toNat 3 ++ [])))))) := by rw [nlV5 h]; simp only [List.append_nil]
    generalize nlV x = V at *
    have h0 : At V ⟨0, false⟩ (be x.a1.toNat 8 ++ (esL x ++ (be x.a12.toNat 4 ++ (be x.a17.toNat 1 ++ (be x.a16.toNat 4 ++ (be x.a18.toNat 4 ++ (be x.a19.toNat 3 ++ []))))))) := by rw [← hV]; exact hs
    obtain ⟨e1, h1⟩ := h0.tk (by omega) (by omega)
    obtain ⟨e2, et, h2⟩ := refH_es (k := x.a0) (by omega) h1
    obtain ⟨e3, h3⟩ := h2.tk (by omega) (by omega)
    obtain ⟨e4, h4⟩ := h3.tk (by omega) (by omega)
    obtain ⟨e5, h5⟩ := h4.tk (by omega) (by omega)
    obtain ⟨e6, h6⟩ := h5.tk (by omega) (by omega)
    obtain ⟨e7, h7⟩ := h6.tk (by omega) (by omega)
    have er : rsP x.a0 V = 22 := by unfold rsP; rw [if_pos (by omega), et]
    have e2 := e2 _ rfl
    unfold refV
    rw [if_neg (by omega), if_neg (by omega), if_pos h, er]
    refine S60_ext rfl e1 e2.1 e2.2.1 e2.2.2.1 e2.2.2.2.1 e2.2.2.2.2.1 e2.2.2.2.2.2.1 e2.2.2.2.2.2.2.1 e2.2.2.2.2.2.2.2.1 e2.2.2.2.2.2.2.2.2.1 e2.2.2.2.2.2.2.2.2.2 ?_ hf.1 hf.2.1 hf.2.2.1 e5 e4 e6 e7 hf.2.2.2
    show (if x.a0 ≠ 4 then _ else _) = _
    rw [if_pos (by omega), et, e3]
/-- A whole piece of a known kind: both decode it alike. -/
theorem dcR_ref {b : List Int} (hy : ∀ y ∈ b, isY y) (h1 : ¬ (b.length < 2 ∨ (b.length : Int) < 2 + b.getD 1 0)) (h2 : ¬ (b.getD 0 0 < 1 ∨ b.getD 0 0 > 5)) :
    (nlCk (refV (b.getD 0 0) (b.drop 2)) = 0 → nlB (refV (b.getD 0 0) (b.drop 2)) = b → dcR b = (refV (b.getD 0 0) (b.drop 2), 0)) ∧
    (nlCk (refV (b.getD 0 0) (b.drop 2)) ≠ 0 ∨ nlB (refV (b.getD 0 0) (b.drop 2)) ≠ b → dcR b = (zS, 3)) := by
  constructor
  · intro c e
    have := dc_B (refV_wf (fun y hm => hy y (List.mem_of_mem_drop hm)) (k := b.getD 0 0) (by omega)) (nlOk_iff.1 c)
    rw [e] at this
    exact this
  · intro g
    by_cases hd : (dcR b).2 = 0
    · exfalso
      obtain ⟨w1, w2, w3⟩ := dc_ok hy hd
      have hz := refV_V w1 w2
      generalize (dcR b).1 = y at *
      have e0 : b.getD 0 0 = y.a0 := by rw [← w3]; rfl
      have e1 : b.drop 2 = nlV y := by rw [← w3]; rfl
      rw [e0, e1, hz] at g
      rcases g with g | g
      · exact g (nlOk_iff.2 w2)
      · exact g w3
    · unfold dcR at hd ⊢
      rw [if_neg h1, if_neg h2] at hd ⊢
      split
      · rfl
      · rename_i g3
        rw [if_neg g3] at hd
        exact absurd rfl hd
end Go.Proofs.Ytjdppdoakbojcaa.Abs

/- The reference's Read of routes; the contract of the statement NlriRead. -/
namespace Go.Proofs.Ytjdppdoakbojcaa.Abs
open Go
set_option linter.unusedVariables false
theorem add64 {a : Nat} {y : Int} (ha : a < 72057594037927936) (h : isY y) : IntKind.u64.wrap (((a * 256 : Nat) : Int) + IntKind.u64.wrap y) = ((a * 256 + y.toNat : Nat) : Int) := by
  unfold isY at h
  rw [u64_eq, u64_eq]
  omega
theorem tk_u32 {L : List Int} (hy : ∀ y ∈ L, isY y) (p : Nat) {k : Nat} (hk : k ≤ 4) : IntKind.u32.wrap (tk L p k) = tk L p k := by
  have h1 := tk_lt hy p k
  have h2 : 256 ^ k ≤ 256 ^ 4 := Nat.pow_le_pow_right (by decide) hk
  have h3 : IntKind.u32.wrap (tk L p k) = (tk L p k) % 4294967296 := by simp [IntKind.wrap, IntKind.bits, IntKind.signed]
  omega
theorem tk_i64 {L : List Int} (hy : ∀ y ∈ L, isY y) (p : Nat) {k : Nat} (hk : k ≤ 4) : IntKind.i64.wrap (tk L p k) = tk L p k := by
  have h1 := tk_lt hy p k
  have h2 : 256 ^ k ≤ 256 ^ 4 := Nat.pow_le_pow_right (by decide) hk
  exact IntWalk.i64_in _ (by omega)
theorem rsP_le (k : Int) (L : List Int) : rsP k L ≤ 22 := by
  unfold rsP tgP
  split <;> split <;> omega
section
variable {B0 : Nat} {old : Nat → Option (List Value)} {n : Nat} {H : Hp} {Q : Value → Hp → Prop} {ad : Option Addr} {c : Nat} {L : List Int} {bv : Value}
set_option maxRecDepth 10000
set_option maxHeartbeats 8000000
theorem take125_ct (h1 : Arr (cx B0 old) H ad 1 encY L) (hy : ∀ y ∈ L, isY y) (hl : L.length ≤ 100000) (p k : Nat) (hp : p ≤ 1000) (hk : k ≤ 8) (hQ : Q (.int .u64 (tk L p k)) H) :
    CallT (cx B0 old) (acall (cx B0 old) ansP (n + 1)) 125 [.slice ad L.length c, .int .i64 (p : Int), .int .i64 (k : Int)] H Q := by
  refine call_in3 33 rfl Try.func125 rfl rfl ?_
  unfold tk at hQ
  repeat (first | refine Z0 ?_ | (refine ZR ?_; first | refine x1 ?_ | refine x2 ?_ | refine x8 ?_ | refine Z1 ?_ | refine Z2 ?_ | refine x3 fun _ => ?_ | refine x4 fun _ => ?_ | refine x5 fun _ => ?_ | refine Z3 fun _ => ?_ | refine Z4 fun _ => ?_) | refine Za ?_ | refine Zb ?_ | refine Zl ?_ | refine Zc ?_ | refine Ze ?_ | refine Zi ?_ | refine Zj ?_ | refine Zf ?_ | refine Zg ?_ | refine Zm ?_ | refine Zn ?_ | refine Zo ?_ | refine Zp ?_ | refine Zq ?_ | refine Zr ?_ | refine Zk ?_)
  by_cases hpk : p + k ≤ L.length
  · rw [if_pos hpk] at hQ
    have hM : (sub L p k).length = k := sub_len hpk
    have hyM := sub_Y hy p k
    have hget : ∀ i x, (sub L p k)[i]? = some x → L[p + i]? = some x := fun i x h => by
      have hi := (List.getElem?_eq_some_iff.1 h).1
      unfold sub at h hM hi
      rw [List.getElem?_take_of_lt (by omega), List.getElem?_drop] at h
      exact h
    generalize sub L p k = M at *
    refine loop_ind (ι := Nat) 0 (fun i => k - i) (fun i => i ≤ k) (fun i => [(8, .int .i64 (i : Int)), (7, .int .u64 ((num (M.take i) : Nat) : Int)), (0, .slice ad L.length c), (1, .int .i64 (p : Int)), (2, .int .i64 (k : Int))]) (fun _ => H) (Nat.zero_le _) (by repeat (first | exact SubL.nil | refine SubL.cons rfl ?_)) (List.Sublist.refl _) ?_
    intro i hi
    repeat (first | refine Z0 ?_ | (refine ZR ?_; first | refine x1 ?_ | refine x2 ?_ | refine x8 ?_ | refine Z1 ?_ | refine Z2 ?_ | refine x3 fun _ => ?_ | refine x4 fun _ => ?_ | refine x5 fun _ => ?_ | refine Z3 fun _ => ?_ | refine Z4 fun _ => ?_) | refine Za ?_ | refine Zb ?_ | refine Zl ?_ | refine Zc ?_ | refine Ze ?_ | refine Zi ?_ | refine Zj ?_ | refine Zf ?_ | refine Zg ?_ | refine Zm ?_ | refine Zn ?_ | refine Zo ?_ | refine Zp ?_ | refine Zq ?_ | refine Zr ?_ | refine Zk ?_)
    by_cases hik : i < k
    · obtain ⟨x, hx⟩ : ∃ x, M[i]? = some x := ⟨_, List.getElem?_eq_getElem (by omega)⟩
      have hxy := getY hyM hx
      have e : ((p : Int) + (i : Int)).toNat = p + i := by omega
      obtain ⟨b1, o1, e1, hL0⟩ := h1.ld1 5 (i := ((p : Int) + (i : Int)).toNat) (a := x) (by rw [e]; exact hget i x hx) rfl rfl (sz rfl)
      subst e1
      have htk : num (M.take (i + 1)) = num (M.take i) * 256 + x.toNat := by rw [List.take_add_one, hx, ← num_snoc]; rfl
      have hsm := num_small (L := M.take i) (take_Y hyM i) (by rw [List.length_take]; omega)
      rw [show decide ((i : Int) < (k : Int)) = true by simp; omega]
      repeat (first | refine Z0 ?_ | (refine ZR ?_; first | refine x1 ?_ | refine x2 ?_ | refine x8 ?_ | refine Z1 ?_ | refine Z2 ?_ | refine x3 fun _ => ?_ | refine x4 fun _ => ?_ | refine x5 fun _ => ?_ | refine Z3 fun _ => ?_ | refine Z4 fun _ => ?_) | refine Za ?_ | refine Zb ?_ | refine Zl ?_ | refine Zc ?_ | refine Ze ?_ | refine Zi ?_ | refine Zj ?_ | refine Zf ?_ | refine Zg ?_ | refine Zm ?_ | refine Zn ?_ | refine Zo ?_ | refine Zp ?_ | refine Zq ?_ | refine Zr ?_ | refine Zk ?_)
      rw [show decide ((p : Int) + (k : Int) ≤ (L.length : Int)) = true by simp; omega]
      repeat (first | refine Z0 ?_ | (refine ZR ?_; first | refine x1 ?_ | refine x2 ?_ | refine x8 ?_ | refine Z1 ?_ | refine Z2 ?_ | refine x3 fun _ => ?_ | refine x4 fun _ => ?_ | refine x5 fun _ => ?_ | refine Z3 fun _ => ?_ | refine Z4 fun _ => ?_) | refine Za ?_ | refine Zb ?_ | refine Zl ?_ | refine Zc ?_ | refine Ze ?_ | refine Zi ?_ | refine Zj ?_ | refine Zf ?_ | refine Zg ?_ | refine Zm ?_ | refine Zn ?_ | refine Zo ?_ | refine Zp ?_ | refine Zq ?_ | refine Zr ?_ | refine Zk ?_)
      rw [shl64 hsm]
      repeat (first | refine Z0 ?_ | (refine ZR ?_; first | refine x1 ?_ | refine x2 ?_ | refine x8 ?_ | refine Z1 ?_ | refine Z2 ?_ | refine x3 fun _ => ?_ | refine x4 fun _ => ?_ | refine x5 fun _ => ?_ | refine Z3 fun _ => ?_ | refine Z4 fun _ => ?_) | refine Za ?_ | refine Zb ?_ | refine Zl ?_ | refine Zc ?_ | refine Ze ?_ | refine Zi ?_ | refine Zj ?_ | refine Zf ?_ | refine Zg ?_ | refine Zm ?_ | refine Zn ?_ | refine Zo ?_ | refine Zp ?_ | refine Zq ?_ | refine Zr ?_ | refine Zk ?_)
      rw [add64 hsm hxy]
      repeat (first | refine Z0 ?_ | (refine ZR ?_; first | refine x1 ?_ | refine x2 ?_ | refine x8 ?_ | refine Z1 ?_ | refine Z2 ?_ | refine x3 fun _ => ?_ | refine x4 fun _ => ?_ | refine x5 fun _ => ?_ | refine Z3 fun _ => ?_ | refine Z4 fun _ => ?_) | refine Za ?_ | refine Zb ?_ | refine Zl ?_ | refine Zc ?_ | refine Ze ?_ | refine Zi ?_ | refine Zj ?_ | refine Zf ?_ | refine Zg ?_ | refine Zm ?_ | refine Zn ?_ | refine Zo ?_ | refine Zp ?_ | refine Zq ?_ | refine Zr ?_ | refine Zk ?_)
      refine ⟨i + 1, by omega, by omega, ?_, by exact drop_auto⟩
      rw [htk]
      repeat (first | exact SubL.nil | refine SubL.cons rfl ?_)
    · obtain rfl : i = k := by omega
      rw [show decide ((i : Int) < (i : Int)) = false by simp]
      rw [← hM, List.take_length]
      repeat (first | refine Z0 ?_ | (refine ZR ?_; first | refine x1 ?_ | refine x2 ?_ | refine x8 ?_ | refine Z1 ?_ | refine Z2 ?_ | refine x3 fun _ => ?_ | refine x4 fun _ => ?_ | refine x5 fun _ => ?_ | refine Z3 fun _ => ?_ | refine Z4 fun _ => ?_) | refine Za ?_ | refine Zb ?_ | refine Zl ?_ | refine Zc ?_ | refine Ze ?_ | refine Zi ?_ | refine Zj ?_ | refine Zf ?_ | refine Zg ?_ | refine Zm ?_ | refine Zn ?_ | refine Zo ?_ | refine Zp ?_ | refine Zq ?_ | refine Zr ?_ | refine Zk ?_)
      exact re_1 rfl rfl (List.Sublist.refl _) hQ
  · rw [if_neg hpk] at hQ
    refine loop_ind (ι := Nat) 0 (fun _ => 0) (fun i => i = 0) (fun _ => [(8, .int .i64 0), (7, .int .u64 0), (0, .slice ad L.length c), (1, .int .i64 (p : Int)), (2, .int .i64 (k : Int))]) (fun _ => H) rfl (by repeat (first | exact SubL.nil | refine SubL.cons rfl ?_)) (List.Sublist.refl _) ?_
    rintro i rfl
    repeat (first | refine Z0 ?_ | (refine ZR ?_; first | refine x1 ?_ | refine x2 ?_ | refine x8 ?_ | refine Z1 ?_ | refine Z2 ?_ | refine x3 fun _ => ?_ | refine x4 fun _ => ?_ | refine x5 fun _ => ?_ | refine Z3 fun _ => ?_ | refine Z4 fun _ => ?_) | refine Za ?_ | refine Zb ?_ | refine Zl ?_ | refine Zc ?_ | refine Ze ?_ | refine Zi ?_ | refine Zj ?_ | refine Zf ?_ | refine Zg ?_ | refine Zm ?_ | refine Zn ?_ | refine Zo ?_ | refine Zp ?_ | refine Zq ?_ | refine Zr ?_ | refine Zk ?_)
    by_cases hk0 : (0 : Int) < (k : Int)
    · rw [show decide ((0 : Int) < (k : Int)) = true from decide_eq_true hk0]
      repeat (first | refine Z0 ?_ | (refine ZR ?_; first | refine x1 ?_ | refine x2 ?_ | refine x8 ?_ | refine Z1 ?_ | refine Z2 ?_ | refine x3 fun _ => ?_ | refine x4 fun _ => ?_ | refine x5 fun _ => ?_ | refine Z3 fun _ => ?_ | refine Z4 fun _ => ?_) | refine Za ?_ | refine Zb ?_ | refine Zl ?_ | refine Zc ?_ | refine Ze ?_ | refine Zi ?_ | refine Zj ?_ | refine Zf ?_ | refine Zg ?_ | refine Zm ?_ | refine Zn ?_ | refine Zo ?_ | refine Zp ?_ | refine Zq ?_ | refine Zr ?_ | refine Zk ?_)
      rw [show decide ((p : Int) + (k : Int) ≤ (L.length : Int)) = false by simp; omega]
      repeat (first | refine Z0 ?_ | (refine ZR ?_; first | refine x1 ?_ | refine x2 ?_ | refine x8 ?_ | refine Z1 ?_ | refine Z2 ?_ | refine x3 fun _ => ?_ | refine x4 fun _ => ?_ | refine x5 fun _ => ?_ | refine Z3 fun _ => ?_ | refine Z4 fun _ => ?_) | refine Za ?_ | refine Zb ?_ | refine Zl ?_ | refine Zc ?_ | refine Ze ?_ | refine Zi ?_ | refine Zj ?_ | refine Zf ?_ | refine Zg ?_ | refine Zm ?_ | refine Zn ?_ | refine Zo ?_ | refine Zp ?_ | refine Zq ?_ | refine Zr ?_ | refine Zk ?_)
      exact re_1 rfl rfl (List.Sublist.refl _) hQ
    · rw [show decide ((0 : Int) < (k : Int)) = false from decide_eq_false hk0]
      repeat (first | refine Z0 ?_ | (refine ZR ?_; first | refine x1 ?_ | refine x2 ?_ | refine x8 ?_ | refine Z1 ?_ | refine Z2 ?_ | refine x3 fun _ => ?_ | refine x4 fun _ => ?_ | refine x5 fun _ => ?_ | refine Z3 fun _ => ?_ | refine Z4 fun _ => ?_) | refine Za ?_ | refine Zb ?_ | refine Zl ?_ | refine Zc ?_ | refine Ze ?_ | refine Zi ?_ | refine Zj ?_ | refine Zf ?_ | refine Zg ?_ | refine Zm ?_ | refine Zn ?_ | refine Zo ?_ | refine Zp ?_ | refine Zq ?_ | refine Zr ?_ | refine Zk ?_)
      exact re_1 rfl rfl (List.Sublist.refl _) hQ
theorem value94_ct (k : Int) (hk : 1 ≤ k ∧ k ≤ 5) (hb : CutV (cx B0 old) H encY 1 L bv) (hy : ∀ y ∈ L, isY y) (hl : L.length ≤ 1000) (hQ : Q (.agg ⟨en60 (refV k L)⟩) H) :
    CallT (cx B0 old) (acall (cx B0 old) ansP (n + 2)) 94 [.int .i64 k, bv] H Q := by
  obtain ⟨ad, c, e, ha, _⟩ := hb.arr
  subst e
  have hT := fun (p q : Nat) (hp : p ≤ 1000) (hq : q ≤ 8) {H' : Hp} {Q' : Value → Hp → Prop} (hs : H.Sublist H') h => take125_ct (B0 := B0) (old := old) (n := n) (H := H') (Q := Q') (c := c) ((ha.arr encY_len).weak hs) hy (by omega) p q hp hq h
  refine call_in2 108 rfl Try.func94 rfl rfl ?_
  repeat (first | refine Z0 ?_ | (refine ZR ?_; first | refine x1 ?_ | refine x2 ?_ | refine x8 ?_ | refine Z1 ?_ | refine Z2 ?_ | refine x3 fun _ => ?_ | refine x4 fun _ => ?_ | refine x5 fun _ => ?_ | refine Z3 fun _ => ?_ | refine Z4 fun _ => ?_) | refine Za ?_ | refine Zb ?_ | refine Zl ?_ | refine Zc ?_ | refine Ze ?_ | refine Zi ?_ | refine Zj ?_ | refine Zf ?_ | refine Zg ?_ | refine Zm ?_ | refine Zn ?_ | refine Zo ?_ | refine Zp ?_ | refine Zq ?_ | refine Zr ?_ | refine Zk ?_)
  rename_i t4
  refine rt_step rfl rfl rfl (st_call rfl rfl rfl rfl (hT 0 8 (by omega) (by decide) (by exact drop_auto) ?_))
  apply rt_p rfl rfl rfl
  case hp => exact p_buildS (r := [.int .i64 k, .int .u64 (tk L 0 8), .int .u8 0, .int .u8 0, .int .u8 0, .int .u8 0, .int .u8 0, .int .u8 0, .int .u8 0, .int .u8 0, .int .u8 0, .int .u8 0, .int .u32 0, .int .u64 0, .int .u32 0, .bool false, .int .u32 0, .int .i64 0, .int .u32 0, .int .u32 0, .int .u32 0]) rfl (zr rfl) rfl rfl rfl rfl
  repeat (first | refine Z0 ?_ | (refine ZR ?_; first | refine x1 ?_ | refine x2 ?_ | refine x8 ?_ | refine Z1 ?_ | refine Z2 ?_ | refine x3 fun _ => ?_ | refine x4 fun _ => ?_ | refine x5 fun _ => ?_ | refine Z3 fun _ => ?_ | refine Z4 fun _ => ?_) | refine Za ?_ | refine Zb ?_ | refine Zl ?_ | refine Zc ?_ | refine Ze ?_ | refine Zi ?_ | refine Zj ?_ | refine Zf ?_ | refine Zg ?_ | refine Zm ?_ | refine Zn ?_ | refine Zo ?_ | refine Zp ?_ | refine Zq ?_ | refine Zr ?_ | refine Zk ?_)
  rename_i t5
  refine rt_midE (ι := Bool) (fun b => b = decide (18 ≤ L.length ∧ k ≠ 3)) (fun b => [(17, .bool b), (6, .int .i64 8), (5, .pointer (some ⟨t5, 0, none⟩)), (4, .pointer (some ⟨t4, 0, none⟩)), (0, .int .i64 k), (1, .slice ad L.length c)]) (fun _ => (t5, .row [.int .i64 k, .int .u64 (tk L 0 8), .int .u8 0, .int .u8 0, .int .u8 0, .int .u8 0, .int .u8 0, .int .u8 0, .int .u8 0, .int .u8 0, .int .u8 0, .int .u8 0, .int .u32 0, .int .u64 0, .int .u32 0, .bool false, .int .u32 0, .int .i64 0, .int .u32 0, .int .u32 0, .int .u32 0] 21 false) :: (t4, .row [.int .i64 0, .int .u64 0, .int .u8 0, .int .u8 0, .int .u8 0, .int .u8 0, .int .u8 0, .int .u8 0, .int .u8 0, .int .u8 0, .int .u8 0, .int .u8 0, .int .u32 0, .int .u64 0, .int .u32 0, .bool false, .int .u32 0, .int .i64 0, .int .u32 0, .int .u32 0, .int .u32 0] 21 false) :: H) ?_ ?_
  · by_cases h3 : k = 3
    · rw [show (k != 3) = false by simp [h3]]
      repeat (first | refine Z0 ?_ | (refine ZR ?_; first | refine x1 ?_ | refine x2 ?_ | refine x8 ?_ | refine Z1 ?_ | refine Z2 ?_ | refine x3 fun _ => ?_ | refine x4 fun _ => ?_ | refine x5 fun _ => ?_ | refine Z3 fun _ => ?_ | refine Z4 fun _ => ?_) | refine Za ?_ | refine Zb ?_ | refine Zl ?_ | refine Zc ?_ | refine Ze ?_ | refine Zi ?_ | refine Zj ?_ | refine Zf ?_ | refine Zg ?_ | refine Zm ?_ | refine Zn ?_ | refine Zo ?_ | refine Zp ?_ | refine Zq ?_ | refine Zr ?_ | refine Zk ?_)
      exact ⟨false, by simp [h3], by repeat (first | exact SubL.nil | refine SubL.cons rfl ?_), List.Sublist.refl _⟩
    · rw [show (k != 3) = true by simp [h3]]
      repeat (first | refine Z0 ?_ | (refine ZR ?_; first | refine x1 ?_ | refine x2 ?_ | refine x8 ?_ | refine Z1 ?_ | refine Z2 ?_ | refine x3 fun _ => ?_ | refine x4 fun _ => ?_ | refine x5 fun _ => ?_ | refine Z3 fun _ => ?_ | refine Z4 fun _ => ?_) | refine Za ?_ | refine Zb ?_ | refine Zl ?_ | refine Zc ?_ | refine Ze ?_ | refine Zi ?_ | refine Zj ?_ | refine Zf ?_ | refine Zg ?_ | refine Zm ?_ | refine Zn ?_ | refine Zo ?_ | refine Zp ?_ | refine Zq ?_ | refine Zr ?_ | refine Zk ?_)
      exact ⟨decide ((L.length : Int) ≥ 18), by rw [decide_eq_decide]; omega, by repeat (first | exact SubL.nil | refine SubL.cons rfl ?_), List.Sublist.refl _⟩
  intro b hbb
  repeat (first | refine Z0 ?_ | (refine ZR ?_; first | refine x1 ?_ | refine x2 ?_ | refine x8 ?_ | refine Z1 ?_ | refine Z2 ?_ | refine x3 fun _ => ?_ | refine x4 fun _ => ?_ | refine x5 fun _ => ?_ | refine Z3 fun _ => ?_ | refine Z4 fun _ => ?_) | refine Za ?_ | refine Zb ?_ | refine Zl ?_ | refine Zc ?_ | refine Ze ?_ | refine Zi ?_ | refine Zj ?_ | refine Zf ?_ | refine Zg ?_ | refine Zm ?_ | refine Zn ?_ | refine Zo ?_ | refine Zp ?_ | refine Zq ?_ | refine Zr ?_ | refine Zk ?_)
  refine ct_midE (ι := Unit) (fun _ => True) (fun _ => [(6, .int .i64 (tgP k L : Int)), (5, .pointer (some ⟨t5, 0, none⟩)), (4, .pointer (some ⟨t4, 0, none⟩)), (0, .int .i64 k), (1, .slice ad L.length c)]) (fun _ => (t5, .row [.int .i64 k, .int .u64 (tk L 0 8), .int .u8 (if 18 ≤ L.length ∧ k ≠ 3 then (sub L 8 10).getD 0 0 else 0), .int .u8 (if 18 ≤ L.length ∧ k ≠ 3 then (sub L 8 10).getD 1 0 else 0), .int .u8 (if 18 ≤ L.length ∧ k ≠ 3 then (sub L 8 10).getD 2 0 else 0), .int .u8 (if 18 ≤ L.length ∧ k ≠ 3 then (sub L 8 10).getD 3 0 else 0), .int .u8 (if 18 ≤ L.length ∧ k ≠ 3 then (sub L 8 10).getD 4 0 else 0), .int .u8 (if 18 ≤ L.length ∧ k ≠ 3 then (sub L 8 10).getD 5 0 else 0), .int .u8 (if 18 ≤ L.length ∧ k ≠ 3 then (sub L 8 10).getD 6 0 else 0), .int .u8 (if 18 ≤ L.length ∧ k ≠ 3 then (sub L 8 10).getD 7 0 else 0), .int .u8 (if 18 ≤ L.length ∧ k ≠ 3 then (sub L 8 10).getD 8 0 else 0), .int .u8 (if 18 ≤ L.length ∧ k ≠ 3 then (sub L 8 10).getD 9 0 else 0), .int .u32 0, .int .u64 0, .int .u32 0, .bool false, .int .u32 0, .int .i64 0, .int .u32 0, .int .u32 0, .int .u32 0] 21 false) :: (t4, .row [.int .i64 0, .int .u64 0, .int .u8 0, .int .u8 0, .int .u8 0, .int .u8 0, .int .u8 0, .int .u8 0, .int .u8 0, .int .u8 0, .int .u8 0, .int .u8 0, .int .u32 0, .int .u64 0, .int .u32 0, .bool false, .int .u32 0, .int .i64 0, .int .u32 0, .int .u32 0, .int .u32 0] 21 false) :: H) ?_ ?_
  · cases b
    · have hbb := of_decide_eq_false hbb.symm
      have htg : tgP k L = 8 := if_neg hbb
      rw [htg]
      simp only [if_neg hbb]
      repeat (first | refine Z0 ?_ | (refine ZR ?_; first | refine x1 ?_ | refine x2 ?_ | refine x8 ?_ | refine Z1 ?_ | refine Z2 ?_ | refine x3 fun _ => ?_ | refine x4 fun _ => ?_ | refine x5 fun _ => ?_ | refine Z3 fun _ => ?_ | refine Z4 fun _ => ?_) | refine Za ?_ | refine Zb ?_ | refine Zl ?_ | refine Zc ?_ | refine Ze ?_ | refine Zi ?_ | refine Zj ?_ | refine Zf ?_ | refine Zg ?_ | refine Zm ?_ | refine Zn ?_ | refine Zo ?_ | refine Zp ?_ | refine Zq ?_ | refine Zr ?_ | refine Zk ?_)
      exact ⟨(), trivial, by repeat (first | exact SubL.nil | refine SubL.cons rfl ?_), List.Sublist.refl _⟩
    · have hbb := of_decide_eq_true hbb.symm
      have htg : tgP k L = 18 := if_pos hbb
      rw [htg]
      simp only [if_pos hbb]
      have hsl : aslice (cx B0 old) 56 (.pointer (some ⟨t5, 0 + 2, none⟩)) none none none = some (.slice (some ⟨t5, 0 + 2, none⟩) 10 10) := by
        have := aslice_arr (C := cx B0 old) (t := 56) (b := t5) (o := 0 + 2) (m := 0) (q := 10) (k := 1) (lo := none) (hi := none) rfl (show sizeAt (cx B0 old) 5 = some 1 from sz rfl) (by decide) (Nat.zero_le _) (by decide) (.inr ⟨rfl, rfl⟩) (.inr ⟨rfl, rfl⟩)
        simpa using this
      obtain ⟨v2, e2, hv2⟩ := hb.part encY_len (t := 34) (e := 5) (lo := some (.int .i64 8)) (hi := some (.int .i64 18)) 8 18 rfl (sz rfl) (by decide) (by omega) (.inl rfl) (.inl rfl)
      have hM : (sub L 8 10).length = 10 := sub_len (by omega)
      have hv2 : CutV (cx B0 old) H encY 1 (sub L 8 10) v2 := hv2
      obtain ⟨ad2, c2, e3, ha2, _⟩ := hv2.arr
      generalize sub L 8 10 = M at *
      obtain ⟨e0, e1, e4, e5, e6, e7, e8, e9, e10, e11, rfl⟩ := ten hM
      subst e3
      repeat (first | refine Z0 ?_ | (refine ZR ?_; first | refine x1 ?_ | refine x2 ?_ | refine x8 ?_ | refine Z1 ?_ | refine Z2 ?_ | refine x3 fun _ => ?_ | refine x4 fun _ => ?_ | refine x5 fun _ => ?_ | refine Z3 fun _ => ?_ | refine Z4 fun _ => ?_) | refine Za ?_ | refine Zb ?_ | refine Zl ?_ | refine Zc ?_ | refine Ze ?_ | refine Zi ?_ | refine Zj ?_ | refine Zf ?_ | refine Zg ?_ | refine Zm ?_ | refine Zn ?_ | refine Zo ?_ | refine Zp ?_ | refine Zq ?_ | refine Zr ?_ | refine Zk ?_)
      refine ct_draw (masks := [0, 1, 0, 4, 15]) (plan := [0, 1, 2, 3, 4]) (E := []) (by kernel_rfl) (by kernel_rfl) (by kernel_rfl) (by kernel_rfl) ?_
      repeat (first | refine Y0 ?_ | (refine YP ?_; first | refine y1 ?_ | refine y2 ?_ | refine Y1 ?_ | refine Y2 ?_))
      refine pl_p rfl rfl rfl rfl rfl rfl (p_slc rfl rfl rfl hsl) ?_
      repeat (first | refine Y0 ?_ | (refine YP ?_; first | refine y1 ?_ | refine y2 ?_ | refine Y1 ?_ | refine Y2 ?_))
      refine pl_p rfl rfl rfl rfl rfl rfl (p_slc rfl rfl rfl e2) ?_
      repeat (first | refine Y0 ?_ | (refine YP ?_; first | refine y1 ?_ | refine y2 ?_ | refine Y1 ?_ | refine Y2 ?_))
      refine pl_S rfl rfl rfl rfl rfl rfl (st_copy (k := 1) (n := 10) (xs := [e0, e1, e4, e5, e6, e7, e8, e9, e10, e11].flatMap encY) (cs' := [.int .i64 k, .int .u64 (tk L 0 8), .int .u8 e0, .int .u8 e1, .int .u8 e4, .int .u8 e5, .int .u8 e6, .int .u8 e7, .int .u8 e8, .int .u8 e9, .int .u8 e10, .int .u8 e11, .int .u32 0, .int .u64 0, .int .u32 0, .bool false, .int .u32 0, .int .i64 0, .int .u32 0, .int .u32 0, .int .u32 0]) rfl rfl rfl (sz rfl) ((ha2.weak (by exact drop_auto)).src (by simp)) rfl (by decide) rfl (.here _ _ _ _) ⟨by exact rec_auto, ?_⟩)
      repeat (first | refine Y0 ?_ | (refine YP ?_; first | refine y1 ?_ | refine y2 ?_ | refine Y1 ?_ | refine Y2 ?_))
      repeat (first | refine Z0 ?_ | (refine ZR ?_; first | refine x1 ?_ | refine x2 ?_ | refine x8 ?_ | refine Z1 ?_ | refine Z2 ?_ | refine x3 fun _ => ?_ | refine x4 fun _ => ?_ | refine x5 fun _ => ?_ | refine Z3 fun _ => ?_ | refine Z4 fun _ => ?_) | refine Za ?_ | refine Zb ?_ | refine Zl ?_ | refine Zc ?_ | refine Ze ?_ | refine Zi ?_ | refine Zj ?_ | refine Zf ?_ | refine Zg ?_ | refine Zm ?_ | refine Zn ?_ | refine Zo ?_ | refine Zp ?_ | refine Zq ?_ | refine Zr ?_ | refine Zk ?_)
      exact ⟨(), trivial, by repeat (first | exact SubL.nil | refine SubL.cons rfl ?_), List.Sublist.refl _⟩
  intro _ _
  repeat (first | refine Z0 ?_ | (refine ZR ?_; first | refine x1 ?_ | refine x2 ?_ | refine x8 ?_ | refine Z1 ?_ | refine Z2 ?_ | refine x3 fun _ => ?_ | refine x4 fun _ => ?_ | refine x5 fun _ => ?_ | refine Z3 fun _ => ?_ | refine Z4 fun _ => ?_) | refine Za ?_ | refine Zb ?_ | refine Zl ?_ | refine Zc ?_ | refine Ze ?_ | refine Zi ?_ | refine Zj ?_ | refine Zf ?_ | refine Zg ?_ | refine Zm ?_ | refine Zn ?_ | refine Zo ?_ | refine Zp ?_ | refine Zq ?_ | refine Zr ?_ | refine Zk ?_)
  have htg18 : tgP k L ≤ 18 := by unfold tgP; split <;> omega
  have hrow : en60 (refH k L) = [.int .i64 k, .int .u64 (tk L 0 8), .int .u8 (if 18 ≤ L.length ∧ k ≠ 3 then (sub L 8 10).getD 0 0 else 0), .int .u8 (if 18 ≤ L.length ∧ k ≠ 3 then (sub L 8 10).getD 1 0 else 0), .int .u8 (if 18 ≤ L.length ∧ k ≠ 3 then (sub L 8 10).getD 2 0 else 0), .int .u8 (if 18 ≤ L.length ∧ k ≠ 3 then (sub L 8 10).getD 3 0 else 0), .int .u8 (if 18 ≤ L.length ∧ k ≠ 3 then (sub L 8 10).getD 4 0 else 0), .int .u8 (if 18 ≤ L.length ∧ k ≠ 3 then (sub L 8 10).getD 5 0 else 0), .int .u8 (if 18 ≤ L.length ∧ k ≠ 3 then (sub L 8 10).getD 6 0 else 0), .int .u8 (if 18 ≤ L.length ∧ k ≠ 3 then (sub L 8 10).getD 7 0 else 0), .int .u8 (if 18 ≤ L.length ∧ k ≠ 3 then (sub L 8 10).getD 8 0 else 0), .int .u8 (if 18 ≤ L.length ∧ k ≠ 3 then (sub L 8 10).getD 9 0 else 0), .int .u32 (if k ≠ 4 then tk L (tgP k L) 4 else 0), .int .u64 0, .int .u32 0, .bool false, .int .u32 0, .int .i64 0, .int .u32 0, .int .u32 0, .int .u32 0] := rfl
  refine ct_midE (ι := Unit) (fun _ => True) (fun _ => [(6, .int .i64 (rsP k L : Int)), (5, .pointer (some ⟨t5, 0, none⟩)), (4, .pointer (some ⟨t4, 0, none⟩)), (0, .int .i64 k), (1, .slice ad L.length c)]) (fun _ => (t5, .row (en60 (refH k L)) 21 false) :: (t4, .row [.int .i64 0, .int .u64 0, .int .u8 0, .int .u8 0, .int .u8 0, .int .u8 0, .int .u8 0, .int .u8 0, .int .u8 0, .int .u8 0, .int .u8 0, .int .u8 0, .int .u32 0, .int .u64 0, .int .u32 0, .bool false, .int .u32 0, .int .i64 0, .int .u32 0, .int .u32 0, .int .u32 0] 21 false) :: H) ?_ ?_
  · by_cases h4 : k = 4
    · rw [show (k != 4) = false by simp [h4]]
      rw [hrow, if_neg (fun g : k ≠ 4 => g h4), show rsP k L = tgP k L from if_neg (fun g => g h4)]
      repeat (first | refine Z0 ?_ | (refine ZR ?_; first | refine x1 ?_ | refine x2 ?_ | refine x8 ?_ | refine Z1 ?_ | refine Z2 ?_ | refine x3 fun _ => ?_ | refine x4 fun _ => ?_ | refine x5 fun _ => ?_ | refine Z3 fun _ => ?_ | refine Z4 fun _ => ?_) | refine Za ?_ | refine Zb ?_ | refine Zl ?_ | refine Zc ?_ | refine Ze ?_ | refine Zi ?_ | refine Zj ?_ | refine Zf ?_ | refine Zg ?_ | refine Zm ?_ | refine Zn ?_ | refine Zo ?_ | refine Zp ?_ | refine Zq ?_ | refine Zr ?_ | refine Zk ?_)
      exact ⟨(), trivial, by repeat (first | exact SubL.nil | refine SubL.cons rfl ?_), List.Sublist.refl _⟩
    · rw [show (k != 4) = true by simp [h4]]
      rw [hrow, if_pos h4, show rsP k L = tgP k L + 4 from if_pos h4]
      repeat (first | refine Z0 ?_ | (refine ZR ?_; first | refine x1 ?_ | refine x2 ?_ | refine x8 ?_ | refine Z1 ?_ | refine Z2 ?_ | refine x3 fun _ => ?_ | refine x4 fun _ => ?_ | refine x5 fun _ => ?_ | refine Z3 fun _ => ?_ | refine Z4 fun _ => ?_) | refine Za ?_ | refine Zb ?_ | refine Zl ?_ | refine Zc ?_ | refine Ze ?_ | refine Zi ?_ | refine Zj ?_ | refine Zf ?_ | refine Zg ?_ | refine Zm ?_ | refine Zn ?_ | refine Zo ?_ | refine Zp ?_ | refine Zq ?_ | refine Zr ?_ | refine Zk ?_)
      refine rt_step rfl rfl rfl (st_call rfl rfl rfl rfl (hT (tgP k L) 4 (by omega) (by decide) (by exact drop_auto) ?_))
      repeat (first | refine Z0 ?_ | (refine ZR ?_; first | refine x1 ?_ | refine x2 ?_ | refine x8 ?_ | refine Z1 ?_ | refine Z2 ?_ | refine x3 fun _ => ?_ | refine x4 fun _ => ?_ | refine x5 fun _ => ?_ | refine Z3 fun _ => ?_ | refine Z4 fun _ => ?_) | refine Za ?_ | refine Zb ?_ | refine Zl ?_ | refine Zc ?_ | refine Ze ?_ | refine Zi ?_ | refine Zj ?_ | refine Zf ?_ | refine Zg ?_ | refine Zm ?_ | refine Zn ?_ | refine Zo ?_ | refine Zp ?_ | refine Zq ?_ | refine Zr ?_ | refine Zk ?_)
      rw [tk_u32 hy _ (by decide)]
      exact ⟨(), trivial, by repeat (first | exact SubL.nil | refine SubL.cons rfl ?_), List.Sublist.refl _⟩
  intro _ _
  clear hrow hbb htg18
  unfold refV at hQ
  have hrs := rsP_le k L
  have hr14 : (refH k L).a14 = 0 := rfl
  generalize refH k L = r at *
  generalize rsP k L = rs at *
  have h25 : k = 1 ∨ k = 2 ∨ k = 5 ∨ (k = 3 ∨ k = 4) := by omega
  unfold lbP at hQ
  unfold en60 at hQ ⊢
  repeat (first | refine Z0 ?_ | (refine ZR ?_; first | refine x1 ?_ | refine x2 ?_ | refine x8 ?_ | refine Z1 ?_ | refine Z2 ?_ | refine x3 fun _ => ?_ | refine x4 fun _ => ?_ | refine x5 fun _ => ?_ | refine Z3 fun _ => ?_ | refine Z4 fun _ => ?_) | refine Za ?_ | refine Zb ?_ | refine Zl ?_ | refine Zc ?_ | refine Ze ?_ | refine Zi ?_ | refine Zj ?_ | refine Zf ?_ | refine Zg ?_ | refine Zm ?_ | refine Zn ?_ | refine Zo ?_ | refine Zp ?_ | refine Zq ?_ | refine Zr ?_ | refine Zk ?_)
  rcases h25 with hk1 | hk1 | hk1 | hk1
  · rw [if_pos hk1] at hQ
    dsimp only at hQ
    rw [show (k == 1) = true by simp [hk1]]
    repeat (first | refine Z0 ?_ | (refine ZR ?_; first | refine x1 ?_ | refine x2 ?_ | refine x8 ?_ | refine Z1 ?_ | refine Z2 ?_ | refine x3 fun _ => ?_ | refine x4 fun _ => ?_ | refine x5 fun _ => ?_ | refine Z3 fun _ => ?_ | refine Z4 fun _ => ?_) | refine Za ?_ | refine Zb ?_ | refine Zl ?_ | refine Zc ?_ | refine Ze ?_ | refine Zi ?_ | refine Zj ?_ | refine Zf ?_ | refine Zg ?_ | refine Zm ?_ | refine Zn ?_ | refine Zo ?_ | refine Zp ?_ | refine Zq ?_ | refine Zr ?_ | refine Zk ?_)
    refine rt_step rfl rfl rfl (st_call rfl rfl rfl rfl (hT rs 3 (by omega) (by decide) (by exact drop_auto) ?_))
    repeat (first | refine Z0 ?_ | (refine ZR ?_; first | refine x1 ?_ | refine x2 ?_ | refine x8 ?_ | refine Z1 ?_ | refine Z2 ?_ | refine x3 fun _ => ?_ | refine x4 fun _ => ?_ | refine x5 fun _ => ?_ | refine Z3 fun _ => ?_ | refine Z4 fun _ => ?_) | refine Za ?_ | refine Zb ?_ | refine Zl ?_ | refine Zc ?_ | refine Ze ?_ | refine Zi ?_ | refine Zj ?_ | refine Zf ?_ | refine Zg ?_ | refine Zm ?_ | refine Zn ?_ | refine Zo ?_ | refine Zp ?_ | refine Zq ?_ | refine Zr ?_ | refine Zk ?_)
    rw [tk_u32 hy _ (by decide)]
    exact re_c1 rfl rfl (.own _ _ hm1) rfl (sz rfl) rfl (by exact drop_auto) hQ
  · rw [if_neg (by omega), if_pos hk1] at hQ
    dsimp only at hQ
    rw [show (k == 1) = false by simp [hk1]]
    repeat (first | refine Z0 ?_ | (refine ZR ?_; first | refine x1 ?_ | refine x2 ?_ | refine x8 ?_ | refine Z1 ?_ | refine Z2 ?_ | refine x3 fun _ => ?_ | refine x4 fun _ => ?_ | refine x5 fun _ => ?_ | refine Z3 fun _ => ?_ | refine Z4 fun _ => ?_) | refine Za ?_ | refine Zb ?_ | refine Zl ?_ | refine Zc ?_ | refine Ze ?_ | refine Zi ?_ | refine Zj ?_ | refine Zf ?_ | refine Zg ?_ | refine Zm ?_ | refine Zn ?_ | refine Zo ?_ | refine Zp ?_ | refine Zq ?_ | refine Zr ?_ | refine Zk ?_)
    rw [show (k == 2) = true by simp [hk1]]
    repeat (first | refine Z0 ?_ | (refine ZR ?_; first | refine x1 ?_ | refine x2 ?_ | refine x8 ?_ | refine Z1 ?_ | refine Z2 ?_ | refine x3 fun _ => ?_ | refine x4 fun _ => ?_ | refine x5 fun _ => ?_ | refine Z3 fun _ => ?_ | refine Z4 fun _ => ?_) | refine Za ?_ | refine Zb ?_ | refine Zl ?_ | refine Zc ?_ | refine Ze ?_ | refine Zi ?_ | refine Zj ?_ | refine Zf ?_ | refine Zg ?_ | refine Zm ?_ | refine Zn ?_ | refine Zo ?_ | refine Zp ?_ | refine Zq ?_ | refine Zr ?_ | refine Zk ?_)
    refine rt_step rfl rfl rfl (st_call rfl rfl rfl rfl (hT (rs + 1) 6 (by omega) (by decide) (by exact drop_auto) ?_))
    repeat (first | refine Z0 ?_ | (refine ZR ?_; first | refine x1 ?_ | refine x2 ?_ | refine x8 ?_ | refine Z1 ?_ | refine Z2 ?_ | refine x3 fun _ => ?_ | refine x4 fun _ => ?_ | refine x5 fun _ => ?_ | refine Z3 fun _ => ?_ | refine Z4 fun _ => ?_) | refine Za ?_ | refine Zb ?_ | refine Zl ?_ | refine Zc ?_ | refine Ze ?_ | refine Zi ?_ | refine Zj ?_ | refine Zf ?_ | refine Zg ?_ | refine Zm ?_ | refine Zn ?_ | refine Zo ?_ | refine Zp ?_ | refine Zq ?_ | refine Zr ?_ | refine Zk ?_)
    rw [show (rs : Int) + 8 - 1 = ((rs + 7 : Nat) : Int) by omega]
    refine rt_step rfl rfl rfl (st_call rfl rfl rfl rfl (hT (rs + 7) 1 (by omega) (by decide) (by exact drop_auto) ?_))
    have e7 : rs + 8 - 1 = rs + 7 := rfl
    rw [e7] at hQ
    repeat (first | refine Z0 ?_ | (refine ZR ?_; first | refine x1 ?_ | refine x2 ?_ | refine x8 ?_ | refine Z1 ?_ | refine Z2 ?_ | refine x3 fun _ => ?_ | refine x4 fun _ => ?_ | refine x5 fun _ => ?_ | refine Z3 fun _ => ?_ | refine Z4 fun _ => ?_) | refine Za ?_ | refine Zb ?_ | refine Zl ?_ | refine Zc ?_ | refine Ze ?_ | refine Zi ?_ | refine Zj ?_ | refine Zf ?_ | refine Zg ?_ | refine Zm ?_ | refine Zn ?_ | refine Zo ?_ | refine Zp ?_ | refine Zq ?_ | refine Zr ?_ | refine Zk ?_)
    refine ct_condT te_e rfl (fun hc => ?_) (fun hc => ?_)
    · rw [if_pos hc, if_pos hc] at hQ
      repeat (first | refine Z0 ?_ | (refine ZR ?_; first | refine x1 ?_ | refine x2 ?_ | refine x8 ?_ | refine Z1 ?_ | refine Z2 ?_ | refine x3 fun _ => ?_ | refine x4 fun _ => ?_ | refine x5 fun _ => ?_ | refine Z3 fun _ => ?_ | refine Z4 fun _ => ?_) | refine Za ?_ | refine Zb ?_ | refine Zl ?_ | refine Zc ?_ | refine Ze ?_ | refine Zi ?_ | refine Zj ?_ | refine Zf ?_ | refine Zg ?_ | refine Zm ?_ | refine Zn ?_ | refine Zo ?_ | refine Zp ?_ | refine Zq ?_ | refine Zr ?_ | refine Zk ?_)
      refine rt_step rfl rfl rfl (st_call rfl rfl rfl rfl (hT (rs + 8) 4 (by omega) (by decide) (by exact drop_auto) ?_))
      repeat (first | refine Z0 ?_ | (refine ZR ?_; first | refine x1 ?_ | refine x2 ?_ | refine x8 ?_ | refine Z1 ?_ | refine Z2 ?_ | refine x3 fun _ => ?_ | refine x4 fun _ => ?_ | refine x5 fun _ => ?_ | refine Z3 fun _ => ?_ | refine Z4 fun _ => ?_) | refine Za ?_ | refine Zb ?_ | refine Zl ?_ | refine Zc ?_ | refine Ze ?_ | refine Zi ?_ | refine Zj ?_ | refine Zf ?_ | refine Zg ?_ | refine Zm ?_ | refine Zn ?_ | refine Zo ?_ | refine Zp ?_ | refine Zq ?_ | refine Zr ?_ | refine Zk ?_)
      rw [tk_u32 hy _ (by decide)]
      refine rt_step rfl rfl rfl (st_call rfl rfl rfl rfl (hT (rs + 8 + 4) 3 (by omega) (by decide) (by exact drop_auto) ?_))
      repeat (first | refine Z0 ?_ | (refine ZR ?_; first | refine x1 ?_ | refine x2 ?_ | refine x8 ?_ | refine Z1 ?_ | refine Z2 ?_ | refine x3 fun _ => ?_ | refine x4 fun _ => ?_ | refine x5 fun _ => ?_ | refine Z3 fun _ => ?_ | refine Z4 fun _ => ?_) | refine Za ?_ | refine Zb ?_ | refine Zl ?_ | refine Zc ?_ | refine Ze ?_ | refine Zi ?_ | refine Zj ?_ | refine Zf ?_ | refine Zg ?_ | refine Zm ?_ | refine Zn ?_ | refine Zo ?_ | refine Zp ?_ | refine Zq ?_ | refine Zr ?_ | refine Zk ?_)
      rw [tk_u32 hy _ (by decide)]
      refine rt_step rfl rfl rfl (st_call rfl rfl rfl rfl (hT (rs + 8 + 4 + 3) 3 (by omega) (by decide) (by exact drop_auto) ?_))
      repeat (first | refine Z0 ?_ | (refine ZR ?_; first | refine x1 ?_ | refine x2 ?_ | refine x8 ?_ | refine Z1 ?_ | refine Z2 ?_ | refine x3 fun _ => ?_ | refine x4 fun _ => ?_ | refine x5 fun _ => ?_ | refine Z3 fun _ => ?_ | refine Z4 fun _ => ?_) | refine Za ?_ | refine Zb ?_ | refine Zl ?_ | refine Zc ?_ | refine Ze ?_ | refine Zi ?_ | refine Zj ?_ | refine Zf ?_ | refine Zg ?_ | refine Zm ?_ | refine Zn ?_ | refine Zo ?_ | refine Zp ?_ | refine Zq ?_ | refine Zr ?_ | refine Zk ?_)
      rw [tk_u32 hy (rs + 8 + 4 + 3) (by decide)]
      exact re_c1 rfl rfl (.own _ _ hm1) rfl (sz rfl) rfl (by exact drop_auto) hQ
    · rw [if_neg hc, if_neg hc] at hQ
      repeat (first | refine Z0 ?_ | (refine ZR ?_; first | refine x1 ?_ | refine x2 ?_ | refine x8 ?_ | refine Z1 ?_ | refine Z2 ?_ | refine x3 fun _ => ?_ | refine x4 fun _ => ?_ | refine x5 fun _ => ?_ | refine Z3 fun _ => ?_ | refine Z4 fun _ => ?_) | refine Za ?_ | refine Zb ?_ | refine Zl ?_ | refine Zc ?_ | refine Ze ?_ | refine Zi ?_ | refine Zj ?_ | refine Zf ?_ | refine Zg ?_ | refine Zm ?_ | refine Zn ?_ | refine Zo ?_ | refine Zp ?_ | refine Zq ?_ | refine Zr ?_ | refine Zk ?_)
      refine rt_step rfl rfl rfl (st_call rfl rfl rfl rfl (hT (rs + 8) 3 (by omega) (by decide) (by exact drop_auto) ?_))
      repeat (first | refine Z0 ?_ | (refine ZR ?_; first | refine x1 ?_ | refine x2 ?_ | refine x8 ?_ | refine Z1 ?_ | refine Z2 ?_ | refine x3 fun _ => ?_ | refine x4 fun _ => ?_ | refine x5 fun _ => ?_ | refine Z3 fun _ => ?_ | refine Z4 fun _ => ?_) | refine Za ?_ | refine Zb ?_ | refine Zl ?_ | refine Zc ?_ | refine Ze ?_ | refine Zi ?_ | refine Zj ?_ | refine Zf ?_ | refine Zg ?_ | refine Zm ?_ | refine Zn ?_ | refine Zo ?_ | refine Zp ?_ | refine Zq ?_ | refine Zr ?_ | refine Zk ?_)
      rw [tk_u32 hy _ (by decide)]
      refine rt_step rfl rfl rfl (st_call rfl rfl rfl rfl (hT (rs + 8 + 3) 3 (by omega) (by decide) (by exact drop_auto) ?_))
      repeat (first | refine Z0 ?_ | (refine ZR ?_; first | refine x1 ?_ | refine x2 ?_ | refine x8 ?_ | refine Z1 ?_ | refine Z2 ?_ | refine x3 fun _ => ?_ | refine x4 fun _ => ?_ | refine x5 fun _ => ?_ | refine Z3 fun _ => ?_ | refine Z4 fun _ => ?_) | refine Za ?_ | refine Zb ?_ | refine Zl ?_ | refine Zc ?_ | refine Ze ?_ | refine Zi ?_ | refine Zj ?_ | refine Zf ?_ | refine Zg ?_ | refine Zm ?_ | refine Zn ?_ | refine Zo ?_ | refine Zp ?_ | refine Zq ?_ | refine Zr ?_ | refine Zk ?_)
      rw [tk_u32 hy (rs + 8 + 3) (by decide), hr14]
      exact re_c1 rfl rfl (.own _ _ hm1) rfl (sz rfl) rfl (by exact drop_auto) hQ
  · rw [if_neg (by omega), if_neg (by omega), if_pos hk1] at hQ
    dsimp only at hQ
    rw [show (k == 1) = false by simp [hk1]]
    repeat (first | refine Z0 ?_ | (refine ZR ?_; first | refine x1 ?_ | refine x2 ?_ | refine x8 ?_ | refine Z1 ?_ | refine Z2 ?_ | refine x3 fun _ => ?_ | refine x4 fun _ => ?_ | refine x5 fun _ => ?_ | refine Z3 fun _ => ?_ | refine Z4 fun _ => ?_) | refine Za ?_ | refine Zb ?_ | refine Zl ?_ | refine Zc ?_ | refine Ze ?_ | refine Zi ?_ | refine Zj ?_ | refine Zf ?_ | refine Zg ?_ | refine Zm ?_ | refine Zn ?_ | refine Zo ?_ | refine Zp ?_ | refine Zq ?_ | refine Zr ?_ | refine Zk ?_)
    rw [show (k == 2) = false by simp [hk1]]
    repeat (first | refine Z0 ?_ | (refine ZR ?_; first | refine x1 ?_ | refine x2 ?_ | refine x8 ?_ | refine Z1 ?_ | refine Z2 ?_ | refine x3 fun _ => ?_ | refine x4 fun _ => ?_ | refine x5 fun _ => ?_ | refine Z3 fun _ => ?_ | refine Z4 fun _ => ?_) | refine Za ?_ | refine Zb ?_ | refine Zl ?_ | refine Zc ?_ | refine Ze ?_ | refine Zi ?_ | refine Zj ?_ | refine Zf ?_ | refine Zg ?_ | refine Zm ?_ | refine Zn ?_ | refine Zo ?_ | refine Zp ?_ | refine Zq ?_ | refine Zr ?_ | refine Zk ?_)
    rw [show (k == 5) = true by simp [hk1]]
    repeat (first | refine Z0 ?_ | (refine ZR ?_; first | refine x1 ?_ | refine x2 ?_ | refine x8 ?_ | refine Z1 ?_ | refine Z2 ?_ | refine x3 fun _ => ?_ | refine x4 fun _ => ?_ | refine x5 fun _ => ?_ | refine Z3 fun _ => ?_ | refine Z4 fun _ => ?_) | refine Za ?_ | refine Zb ?_ | refine Zl ?_ | refine Zc ?_ | refine Ze ?_ | refine Zi ?_ | refine Zj ?_ | refine Zf ?_ | refine Zg ?_ | refine Zm ?_ | refine Zn ?_ | refine Zo ?_ | refine Zp ?_ | refine Zq ?_ | refine Zr ?_ | refine Zk ?_)
    refine rt_step rfl rfl rfl (st_call rfl rfl rfl rfl (hT (rs + 1) 4 (by omega) (by decide) (by exact drop_auto) ?_))
    repeat (first | refine Z0 ?_ | (refine ZR ?_; first | refine x1 ?_ | refine x2 ?_ | refine x8 ?_ | refine Z1 ?_ | refine Z2 ?_ | refine x3 fun _ => ?_ | refine x4 fun _ => ?_ | refine x5 fun _ => ?_ | refine Z3 fun _ => ?_ | refine Z4 fun _ => ?_) | refine Za ?_ | refine Zb ?_ | refine Zl ?_ | refine Zc ?_ | refine Ze ?_ | refine Zi ?_ | refine Zj ?_ | refine Zf ?_ | refine Zg ?_ | refine Zm ?_ | refine Zn ?_ | refine Zo ?_ | refine Zp ?_ | refine Zq ?_ | refine Zr ?_ | refine Zk ?_)
    rw [tk_u32 hy _ (by decide)]
    refine rt_step rfl rfl rfl (st_call rfl rfl rfl rfl (hT rs 1 (by omega) (by decide) (by exact drop_auto) ?_))
    repeat (first | refine Z0 ?_ | (refine ZR ?_; first | refine x1 ?_ | refine x2 ?_ | refine x8 ?_ | refine Z1 ?_ | refine Z2 ?_ | refine x3 fun _ => ?_ | refine x4 fun _ => ?_ | refine x5 fun _ => ?_ | refine Z3 fun _ => ?_ | refine Z4 fun _ => ?_) | refine Za ?_ | refine Zb ?_ | refine Zl ?_ | refine Zc ?_ | refine Ze ?_ | refine Zi ?_ | refine Zj ?_ | refine Zf ?_ | refine Zg ?_ | refine Zm ?_ | refine Zn ?_ | refine Zo ?_ | refine Zp ?_ | refine Zq ?_ | refine Zr ?_ | refine Zk ?_)
    rw [tk_i64 hy _ (by decide)]
    refine rt_step rfl rfl rfl (st_call rfl rfl rfl rfl (hT (rs + 5) 4 (by omega) (by decide) (by exact drop_auto) ?_))
    repeat (first | refine Z0 ?_ | (refine ZR ?_; first | refine x1 ?_ | refine x2 ?_ | refine x8 ?_ | refine Z1 ?_ | refine Z2 ?_ | refine x3 fun _ => ?_ | refine x4 fun _ => ?_ | refine x5 fun _ => ?_ | refine Z3 fun _ => ?_ | refine Z4 fun _ => ?_) | refine Za ?_ | refine Zb ?_ | refine Zl ?_ | refine Zc ?_ | refine Ze ?_ | refine Zi ?_ | refine Zj ?_ | refine Zf ?_ | refine Zg ?_ | refine Zm ?_ | refine Zn ?_ | refine Zo ?_ | refine Zp ?_ | refine Zq ?_ | refine Zr ?_ | refine Zk ?_)
    rw [tk_u32 hy (rs + 5) (by decide)]
    refine rt_step rfl rfl rfl (st_call rfl rfl rfl rfl (hT (rs + 9) 3 (by omega) (by decide) (by exact drop_auto) ?_))
    repeat (first | refine Z0 ?_ | (refine ZR ?_; first | refine x1 ?_ | refine x2 ?_ | refine x8 ?_ | refine Z1 ?_ | refine Z2 ?_ | refine x3 fun _ => ?_ | refine x4 fun _ => ?_ | refine x5 fun _ => ?_ | refine Z3 fun _ => ?_ | refine Z4 fun _ => ?_) | refine Za ?_ | refine Zb ?_ | refine Zl ?_ | refine Zc ?_ | refine Ze ?_ | refine Zi ?_ | refine Zj ?_ | refine Zf ?_ | refine Zg ?_ | refine Zm ?_ | refine Zn ?_ | refine Zo ?_ | refine Zp ?_ | refine Zq ?_ | refine Zr ?_ | refine Zk ?_)
    rw [tk_u32 hy (rs + 9) (by decide)]
    exact re_c1 rfl rfl (.own _ _ hm1) rfl (sz rfl) rfl (by exact drop_auto) hQ
  · rw [if_neg (by omega), if_neg (by omega), if_neg (by omega)] at hQ
    dsimp only at hQ
    rw [show (k == 1) = false by simp; omega]
    repeat (first | refine Z0 ?_ | (refine ZR ?_; first | refine x1 ?_ | refine x2 ?_ | refine x8 ?_ | refine Z1 ?_ | refine Z2 ?_ | refine x3 fun _ => ?_ | refine x4 fun _ => ?_ | refine x5 fun _ => ?_ | refine Z3 fun _ => ?_ | refine Z4 fun _ => ?_) | refine Za ?_ | refine Zb ?_ | refine Zl ?_ | refine Zc ?_ | refine Ze ?_ | refine Zi ?_ | refine Zj ?_ | refine Zf ?_ | refine Zg ?_ | refine Zm ?_ | refine Zn ?_ | refine Zo ?_ | refine Zp ?_ | refine Zq ?_ | refine Zr ?_ | refine Zk ?_)
    rw [show (k == 2) = false by simp; omega]
    repeat (first | refine Z0 ?_ | (refine ZR ?_; first | refine x1 ?_ | refine x2 ?_ | refine x8 ?_ | refine Z1 ?_ | refine Z2 ?_ | refine x3 fun _ => ?_ | refine x4 fun _ => ?_ | refine x5 fun _ => ?_ | refine Z3 fun _ => ?_ | refine Z4 fun _ => ?_) | refine Za ?_ | refine Zb ?_ | refine Zl ?_ | refine Zc ?_ | refine Ze ?_ | refine Zi ?_ | refine Zj ?_ | refine Zf ?_ | refine Zg ?_ | refine Zm ?_ | refine Zn ?_ | refine Zo ?_ | refine Zp ?_ | refine Zq ?_ | refine Zr ?_ | refine Zk ?_)
    rw [show (k == 5) = false by simp; omega]
    repeat (first | refine Z0 ?_ | (refine ZR ?_; first | refine x1 ?_ | refine x2 ?_ | refine x8 ?_ | refine Z1 ?_ | refine Z2 ?_ | refine x3 fun _ => ?_ | refine x4 fun _ => ?_ | refine x5 fun _ => ?_ | refine Z3 fun _ => ?_ | refine Z4 fun _ => ?_) | refine Za ?_ | refine Zb ?_ | refine Zl ?_ | refine Zc ?_ | refine Ze ?_ | refine Zi ?_ | refine Zj ?_ | refine Zf ?_ | refine Zg ?_ | refine Zm ?_ | refine Zn ?_ | refine Zo ?_ | refine Zp ?_ | refine Zq ?_ | refine Zr ?_ | refine Zk ?_)
    refine rt_step rfl rfl rfl (st_call rfl rfl rfl rfl (hT (rs + 1) 4 (by omega) (by decide) (by exact drop_auto) ?_))
    repeat (first | refine Z0 ?_ | (refine ZR ?_; first | refine x1 ?_ | refine x2 ?_ | refine x8 ?_ | refine Z1 ?_ | refine Z2 ?_ | refine x3 fun _ => ?_ | refine x4 fun _ => ?_ | refine x5 fun _ => ?_ | refine Z3 fun _ => ?_ | refine Z4 fun _ => ?_) | refine Za ?_ | refine Zb ?_ | refine Zl ?_ | refine Zc ?_ | refine Ze ?_ | refine Zi ?_ | refine Zj ?_ | refine Zf ?_ | refine Zg ?_ | refine Zm ?_ | refine Zn ?_ | refine Zo ?_ | refine Zp ?_ | refine Zq ?_ | refine Zr ?_ | refine Zk ?_)
    rw [tk_u32 hy _ (by decide)]
    exact re_c1 rfl rfl (.own _ _ hm1) rfl (sz rfl) rfl (by exact drop_auto) hQ
end
end Go.Proofs.Ytjdppdoakbojcaa.Abs

/- The contract of the statement NlriRead. -/
namespace Go.Proofs.Ytjdppdoakbojcaa.Abs
open Go
set_option linter.unusedVariables false
theorem pc_short {D : List Int} (h : D.length < 2 ∨ (D.length : Int) < 2 + D.getD 1 0) : dcR (D.take (pcSz D)) = (zS, 4) := by
  have e : pcSz D = D.length := by
    unfold pcSz
    split
    · rw [Nat.min_eq_left (by omega)]
    · rfl
  rw [e, List.take_length]
  unfold dcR
  rw [if_pos h]
theorem pc_whole {D : List Int} (h0 : 0 ≤ D.getD 1 0) (h2 : 2 ≤ D.length) (h : 2 + D.getD 1 0 ≤ D.length) : pcSz D = 2 + (D.getD 1 0).toNat := by
  unfold pcSz
  rw [if_pos h2, Nat.min_eq_right (by omega)]
theorem getD_take {D : List Int} {i m : Nat} (h : i < m) : (D.take m).getD i 0 = D.getD i 0 := by
  rw [List.getD_eq_getElem?_getD, List.getD_eq_getElem?_getD, List.getElem?_take_of_lt h]
section
variable {C : Ctx} {l : Sl} {H H' : Hp} {v : Value}
theorem re_tc {Q : Value → Hp → Prop} {rs : List ResultVar} {a t t2 b n : Nat} {cs : List Value} (hr : rs = [.tmp t2, .cell a t]) (h2 : getL l t2 = some v) (ha : getL l a = some (.pointer (some ⟨b, 0, none⟩))) (hrow : RowIs C H b cs) (hg : aggAt C t = some true) (hn : sizeAt C t = some n) (hl : Nat.beq cs.length n = true)
    (hs : H'.Sublist H) (hq : Q (.tuple #[v, .agg ⟨cs⟩]) H') : retΦ C rs Q .ret l H := by
  subst hr
  refine re_r hs (res_tmp h2 (res_cell ha hrow hg hn (r := cs) ?_ rfl (res_nil hq)))
  rw [if_pos rfl]
  have e := Nat.eq_of_beq_eq_true hl
  unfold cut
  simp only [List.drop_zero, ← e, List.take_length]
  simp
end
section
variable {B0 : Nat} {old : Nat → Option (List Value)} {n : Nat} {H : Hp} {Q : Value → Hp → Prop} {ad : Option Addr} {c : Nat} {b : List Int} {L : List Int}
set_option maxRecDepth 10000
set_option maxHeartbeats 8000000
theorem own31n_ct (h1 : ArrW (cx B0 old) H ad 1 encY L) (hb : L.length ≤ 100000) (hQ : ∀ v Hs, Own encY 1 L v Hs → Q v (Hs ++ H)) : CallT (cx B0 old) (acall (cx B0 old) ansP (n + 1)) 31 [.slice ad L.length c] H Q := by
  refine call_in1 6 rfl Try.func31 rfl rfl ?_
  repeat (first | refine Z0 ?_ | (refine ZR ?_; first | refine x1 ?_ | refine x2 ?_ | refine x8 ?_ | refine Z1 ?_ | refine Z2 ?_ | refine x3 fun _ => ?_ | refine x4 fun _ => ?_ | refine x5 fun _ => ?_ | refine Z3 fun _ => ?_ | refine Z4 fun _ => ?_) | refine Za ?_ | refine Zb ?_ | refine Zl ?_ | refine Zc ?_ | refine Ze ?_ | refine Zi ?_ | refine Zj ?_ | refine Zf ?_ | refine Zg ?_ | refine Zm ?_ | refine Zn ?_ | refine Zo ?_ | refine Zp ?_ | refine Zq ?_ | refine Zr ?_ | refine Zk ?_)
  refine rt_step rfl rfl rfl (st_appO (pre := []) (Hs := [_]) (Own.emp (en := encY) (k := 1) _ _) (fun _ => rfl) (fun _ => rfl) rfl rfl (ap rfl) (h1.weak (List.sublist_cons_self _ _)) (by show _ * (1 + 1) ≤ _; simp only [List.length_nil]; omega) fun v Hs ho => ?_)
  repeat (first | refine Z0 ?_ | (refine ZR ?_; first | refine x1 ?_ | refine x2 ?_ | refine x8 ?_ | refine Z1 ?_ | refine Z2 ?_ | refine x3 fun _ => ?_ | refine x4 fun _ => ?_ | refine x5 fun _ => ?_ | refine Z3 fun _ => ?_ | refine Z4 fun _ => ?_) | refine Za ?_ | refine Zb ?_ | refine Zl ?_ | refine Zc ?_ | refine Ze ?_ | refine Zi ?_ | refine Zj ?_ | refine Zf ?_ | refine Zg ?_ | refine Zm ?_ | refine Zn ?_ | refine Zo ?_ | refine Zp ?_ | refine Zq ?_ | refine Zr ?_ | refine Zk ?_)
  exact re_1 rfl rfl (by exact drop_auto) (hQ v Hs ho)
theorem rread48_ct (hb : CutV (cx B0 old) H encY 1 b (.slice ad b.length c)) (hba : ArrW (cx B0 old) H ad 1 encY b) (hy : ∀ y ∈ b, isY y) (hl : b.length ≤ 1000)
    (hQ : ∀ v G, Own en60 21 (nlRd b).1 v G → Q (.tuple #[v, .agg ⟨[.int .i64 (nlRd b).2.1, .int .i64 (nlRd b).2.2]⟩]) (G ++ H)) :
    CallT (cx B0 old) (acall (cx B0 old) ansP (n + 5)) 48 [.slice ad b.length c] H Q := by
  refine call_in1 96 rfl Try.func48 rfl rfl ?_
  have hbA : Arr (cx B0 old) H ad 1 encY b := hba.arr encY_len
  repeat (first | refine Z0 ?_ | (refine ZR ?_; first | refine x1 ?_ | refine x2 ?_ | refine x8 ?_ | refine Z1 ?_ | refine Z2 ?_ | refine x3 fun _ => ?_ | refine x4 fun _ => ?_ | refine x5 fun _ => ?_ | refine Z3 fun _ => ?_ | refine Z4 fun _ => ?_) | refine Za ?_ | refine Zb ?_ | refine Zl ?_ | refine Zc ?_ | refine Ze ?_ | refine Zi ?_ | refine Zj ?_ | refine Zf ?_ | refine Zg ?_ | refine Zm ?_ | refine Zn ?_ | refine Zo ?_ | refine Zp ?_ | refine Zq ?_ | refine Zr ?_ | refine Zk ?_)
  rename_i t3
  refine loop_ind (ι := Nat × List S60 × Value × Hp) (0, [], .slice none 0 0, []) (fun i => b.length - i.1) (fun i => i.1 ≤ b.length ∧ Own en60 21 i.2.1 i.2.2.1 i.2.2.2 ∧ i.2.1.length ≤ i.1 ∧ nlR ((b.drop i.1).length + 1) (b.drop i.1) i.1 i.2.1 = nlRd b)
    (fun i => [(5, .int .i64 (i.1 : Int)), (4, i.2.2.1), (3, .pointer (some ⟨t3, 0, none⟩)), (0, .slice ad b.length c)]) (fun i => (t3, .row [.int .i64 0, .int .i64 0] 2 false) :: (i.2.2.2 ++ H)) ⟨Nat.zero_le _, Own.nil, Nat.le_refl _, rfl⟩ (by repeat (first | exact SubL.nil | refine SubL.cons rfl ?_)) (List.Sublist.refl _) ?_
  rintro ⟨i, acc, v, G⟩ ⟨hi, ho, hal, hnl⟩
  dsimp only at hi ho hal hnl ⊢
  have ho2 := ho
  obtain ⟨a4, c4, e4, _⟩ := ho.arrW (C := cx B0 old) en60_len
  subst e4
  repeat (first | refine Z0 ?_ | (refine ZR ?_; first | refine x1 ?_ | refine x2 ?_ | refine x8 ?_ | refine Z1 ?_ | refine Z2 ?_ | refine x3 fun _ => ?_ | refine x4 fun _ => ?_ | refine x5 fun _ => ?_ | refine Z3 fun _ => ?_ | refine Z4 fun _ => ?_) | refine Za ?_ | refine Zb ?_ | refine Zl ?_ | refine Zc ?_ | refine Ze ?_ | refine Zi ?_ | refine Zj ?_ | refine Zf ?_ | refine Zg ?_ | refine Zm ?_ | refine Zn ?_ | refine Zo ?_ | refine Zp ?_ | refine Zq ?_ | refine Zr ?_ | refine Zk ?_)
  refine ct_condT te_d rfl (fun hg => ?_) (fun hg => ?_)
  rotate_left
  · obtain rfl : i = b.length := by omega
    rw [List.drop_length] at hnl
    have hnl : (acc, (0 : Int), (0 : Int)) = nlRd b := hnl
    rw [← hnl] at hQ
    repeat (first | refine Z0 ?_ | (refine ZR ?_; first | refine x1 ?_ | refine x2 ?_ | refine x8 ?_ | refine Z1 ?_ | refine Z2 ?_ | refine x3 fun _ => ?_ | refine x4 fun _ => ?_ | refine x5 fun _ => ?_ | refine Z3 fun _ => ?_ | refine Z4 fun _ => ?_) | refine Za ?_ | refine Zb ?_ | refine Zl ?_ | refine Zc ?_ | refine Ze ?_ | refine Zi ?_ | refine Zj ?_ | refine Zf ?_ | refine Zg ?_ | refine Zm ?_ | refine Zn ?_ | refine Zo ?_ | refine Zp ?_ | refine Zq ?_ | refine Zr ?_ | refine Zk ?_)
    exact re_tc rfl rfl rfl (.own _ _ hm0) rfl (sz rfl) rfl (by exact drop_auto) (hQ _ _ ho2)
  have hDl : (b.drop i).length = b.length - i := List.length_drop
  have hDne : b.drop i ≠ [] := fun e => by rw [e] at hDl; simp at hDl; omega
  have hstep := nlR_step (r := b.drop i) (i := i) (acc := acc) hDne
  rw [hnl] at hstep
  have hbad : ∀ er, (dcR ((b.drop i).take (pcSz (b.drop i)))).2 = er → er ≠ 0 → nlRd b = ([], er, (i : Int)) := fun er h1 h2 => by rw [hstep, if_pos (by rw [h1]; exact h2), h1]
  repeat (first | refine Z0 ?_ | (refine ZR ?_; first | refine x1 ?_ | refine x2 ?_ | refine x8 ?_ | refine Z1 ?_ | refine Z2 ?_ | refine x3 fun _ => ?_ | refine x4 fun _ => ?_ | refine x5 fun _ => ?_ | refine Z3 fun _ => ?_ | refine Z4 fun _ => ?_) | refine Za ?_ | refine Zb ?_ | refine Zl ?_ | refine Zc ?_ | refine Ze ?_ | refine Zi ?_ | refine Zj ?_ | refine Zf ?_ | refine Zg ?_ | refine Zm ?_ | refine Zn ?_ | refine Zo ?_ | refine Zp ?_ | refine Zq ?_ | refine Zr ?_ | refine Zk ?_)
  rw [show ((acc.length : Int) == 4096) = false by simp; omega]
  repeat (first | refine Z0 ?_ | (refine ZR ?_; first | refine x1 ?_ | refine x2 ?_ | refine x8 ?_ | refine Z1 ?_ | refine Z2 ?_ | refine x3 fun _ => ?_ | refine x4 fun _ => ?_ | refine x5 fun _ => ?_ | refine Z3 fun _ => ?_ | refine Z4 fun _ => ?_) | refine Za ?_ | refine Zb ?_ | refine Zl ?_ | refine Zc ?_ | refine Ze ?_ | refine Zi ?_ | refine Zj ?_ | refine Zf ?_ | refine Zg ?_ | refine Zm ?_ | refine Zn ?_ | refine Zo ?_ | refine Zp ?_ | refine Zq ?_ | refine Zr ?_ | refine Zk ?_)
  by_cases h2 : (i : Int) + 2 > (b.length : Int)
  · rw [show decide ((i : Int) + 2 > (b.length : Int)) = true from decide_eq_true h2]
    rw [hbad 4 (by rw [pc_short (.inl (by omega))]) (by decide)] at hQ
    repeat (first | refine Z0 ?_ | (refine ZR ?_; first | refine x1 ?_ | refine x2 ?_ | refine x8 ?_ | refine Z1 ?_ | refine Z2 ?_ | refine x3 fun _ => ?_ | refine x4 fun _ => ?_ | refine x5 fun _ => ?_ | refine Z3 fun _ => ?_ | refine Z4 fun _ => ?_) | refine Za ?_ | refine Zb ?_ | refine Zl ?_ | refine Zc ?_ | refine Ze ?_ | refine Zi ?_ | refine Zj ?_ | refine Zf ?_ | refine Zg ?_ | refine Zm ?_ | refine Zn ?_ | refine Zo ?_ | refine Zp ?_ | refine Zq ?_ | refine Zr ?_ | refine Zk ?_)
    exact re_tc rfl rfl rfl (.own _ _ hm0) rfl (sz rfl) rfl (by exact drop_auto) (hQ _ _ Own.nil)
  rw [show decide ((i : Int) + 2 > (b.length : Int)) = false from decide_eq_false h2]
  obtain ⟨q0, hq0⟩ : ∃ x, b[i]? = some x := ⟨_, List.getElem?_eq_getElem (by omega)⟩
  obtain ⟨q1, hq1⟩ : ∃ x, b[i + 1]? = some x := ⟨_, List.getElem?_eq_getElem (by omega)⟩
  have w0 := getY hy hq0
  have w1 := getY hy hq1
  unfold isY at w0 w1
  have g0 : (b.drop i).getD 0 0 = q0 := by rw [List.getD_eq_getElem?_getD, List.getElem?_drop, Nat.add_zero, hq0]; rfl
  have g1 : (b.drop i).getD 1 0 = q1 := by rw [List.getD_eq_getElem?_getD, List.getElem?_drop, hq1]; rfl
  obtain ⟨b1, o1, e1, hL0⟩ := hbA.ld1 5 hq0 rfl rfl (sz rfl)
  subst e1
  have e2 : ((i : Int) + 1).toNat = i + 1 := by omega
  obtain ⟨b2, o2, e3, hL1⟩ := hbA.ld1 5 (i := ((i : Int) + 1).toNat) (a := q1) (by rw [e2]; exact hq1) rfl rfl (sz rfl)
  cases e3
  repeat (first | refine Z0 ?_ | (refine ZR ?_; first | refine x1 ?_ | refine x2 ?_ | refine x8 ?_ | refine Z1 ?_ | refine Z2 ?_ | refine x3 fun _ => ?_ | refine x4 fun _ => ?_ | refine x5 fun _ => ?_ | refine Z3 fun _ => ?_ | refine Z4 fun _ => ?_) | refine Za ?_ | refine Zb ?_ | refine Zl ?_ | refine Zc ?_ | refine Ze ?_ | refine Zi ?_ | refine Zj ?_ | refine Zf ?_ | refine Zg ?_ | refine Zm ?_ | refine Zn ?_ | refine Zo ?_ | refine Zp ?_ | refine Zq ?_ | refine Zr ?_ | refine Zk ?_)
  rw [i64_i (show -9223372036854775808 ≤ q1 ∧ q1 < 9223372036854775808 by omega), i64_i (show -9223372036854775808 ≤ (i : Int) + 2 + q1 ∧ (i : Int) + 2 + q1 < 9223372036854775808 by omega)]
  repeat (first | refine Z0 ?_ | (refine ZR ?_; first | refine x1 ?_ | refine x2 ?_ | refine x8 ?_ | refine Z1 ?_ | refine Z2 ?_ | refine x3 fun _ => ?_ | refine x4 fun _ => ?_ | refine x5 fun _ => ?_ | refine Z3 fun _ => ?_ | refine Z4 fun _ => ?_) | refine Za ?_ | refine Zb ?_ | refine Zl ?_ | refine Zc ?_ | refine Ze ?_ | refine Zi ?_ | refine Zj ?_ | refine Zf ?_ | refine Zg ?_ | refine Zm ?_ | refine Zn ?_ | refine Zo ?_ | refine Zp ?_ | refine Zq ?_ | refine Zr ?_ | refine Zk ?_)
  refine ct_condT te_d rfl (fun h3 => ?_) (fun h3 => ?_)
  · rw [hbad 4 (by rw [pc_short (.inr (by rw [g1]; omega))]) (by decide)] at hQ
    repeat (first | refine Z0 ?_ | (refine ZR ?_; first | refine x1 ?_ | refine x2 ?_ | refine x8 ?_ | refine Z1 ?_ | refine Z2 ?_ | refine x3 fun _ => ?_ | refine x4 fun _ => ?_ | refine x5 fun _ => ?_ | refine Z3 fun _ => ?_ | refine Z4 fun _ => ?_) | refine Za ?_ | refine Zb ?_ | refine Zl ?_ | refine Zc ?_ | refine Ze ?_ | refine Zi ?_ | refine Zj ?_ | refine Zf ?_ | refine Zg ?_ | refine Zm ?_ | refine Zn ?_ | refine Zo ?_ | refine Zp ?_ | refine Zq ?_ | refine Zr ?_ | refine Zk ?_)
    exact re_tc rfl rfl rfl (.own _ _ hm0) rfl (sz rfl) rfl (by exact drop_auto) (hQ _ _ Own.nil)
  obtain ⟨m, rfl⟩ := Int.eq_ofNat_of_zero_le w1.1
  have hpc : pcSz (b.drop i) = 2 + m := by
    rw [pc_whole (by rw [g1]; omega) (by omega) (by rw [g1]; omega), g1]
    rfl
  rw [hpc] at hbad hstep
  have hPl : ((b.drop i).take (2 + m)).length = 2 + m := by rw [List.length_take]; omega
  have p0 : ((b.drop i).take (2 + m)).getD 0 0 = q0 := by rw [getD_take (by omega), g0]
  have p1 : ((b.drop i).take (2 + m)).getD 1 0 = (m : Int) := by rw [getD_take (by omega), g1]
  have hPy : ∀ y ∈ (b.drop i).take (2 + m), isY y := fun y hm => hy y (List.mem_of_mem_drop (List.mem_of_mem_take hm))
  have hdd : (b.drop i).drop (2 + m) = b.drop (i + (2 + m)) := List.drop_drop
  rw [hdd] at hstep
  have hd2 : (b.drop (i + 2)).take m = ((b.drop i).take (2 + m)).drop 2 := by
    rw [List.drop_take, List.drop_drop]
    congr 1
    omega
  obtain ⟨v5, e5, hv5⟩ := hb.part encY_len (t := 34) (e := 5) (lo := some (.int .i64 ((i : Int) + 2))) (hi := some (.int .i64 ((i : Int) + 2 + (m : Int)))) (i + 2) (i + 2 + m) rfl (sz rfl) (by omega) (by omega) (.inl rfl) (.inl rfl)
  obtain ⟨v6, e6, hv6⟩ := hb.part encY_len (t := 34) (e := 5) (lo := some (.int .i64 (i : Int))) (hi := some (.int .i64 ((i : Int) + 2 + (m : Int)))) i (i + 2 + m) rfl (sz rfl) (by omega) (by omega) (.inl (by simp [natOf])) (.inl rfl)
  rw [show i + 2 + m - (i + 2) = m by omega, hd2] at hv5
  rw [show i + 2 + m - i = 2 + m by omega] at hv6
  have href := fun h1 h2 => dcR_ref (b := (b.drop i).take (2 + m)) hPy h1 h2
  rw [p0, p1, hPl] at href
  have hkb : (q0 < 1 ∨ q0 > 5) → dcR ((b.drop i).take (2 + m)) = (zS, 6) := fun h => by
    unfold dcR
    rw [p0, p1, hPl, if_neg (by omega), if_pos h]
  generalize (b.drop i).take (2 + m) = P at *
  have hval := fun (h : 1 ≤ q0 ∧ q0 ≤ 5) {H' : Hp} {Q' : Value → Hp → Prop} (hs : H.Sublist H') h' => value94_ct (B0 := B0) (old := old) (n := n + 2) (H := H') (Q := Q') (L := P.drop 2) q0 h (hv5.weak hs) (fun y hm => hPy y (List.mem_of_mem_drop hm)) (by rw [List.length_drop]; omega) h'
  repeat (first | refine Z0 ?_ | (refine ZR ?_; first | refine x1 ?_ | refine x2 ?_ | refine x8 ?_ | refine Z1 ?_ | refine Z2 ?_ | refine x3 fun _ => ?_ | refine x4 fun _ => ?_ | refine x5 fun _ => ?_ | refine Z3 fun _ => ?_ | refine Z4 fun _ => ?_) | refine Za ?_ | refine Zb ?_ | refine Zl ?_ | refine Zc ?_ | refine Ze ?_ | refine Zi ?_ | refine Zj ?_ | refine Zf ?_ | refine Zg ?_ | refine Zm ?_ | refine Zn ?_ | refine Zo ?_ | refine Zp ?_ | refine Zq ?_ | refine Zr ?_ | refine Zk ?_)
  refine ct_draw (masks := [0, 0, 3, 7, 15, 0, 32, 0, 0, 256, 896, 1920, 3968, 8160, 31, 32767]) (plan := [0, 1, 2, 3, 4, 5, 6, 7, 8, 9, 10, 11, 12, 13, 14, 15]) (E := []) (by kernel_rfl) (by kernel_rfl) (by kernel_rfl) (by kernel_rfl) ?_
  repeat (first | refine Y0 ?_ | (refine YP ?_; first | refine y1 ?_ | refine y2 ?_ | refine Y1 ?_ | refine Y2 ?_))
  rw [i64_i (show -9223372036854775808 ≤ q0 ∧ q0 < 9223372036854775808 by omega), i64_i (show -9223372036854775808 ≤ (m : Int) ∧ (m : Int) < 9223372036854775808 by omega)]
  repeat (first | refine Y0 ?_ | (refine YP ?_; first | refine y1 ?_ | refine y2 ?_ | refine Y1 ?_ | refine Y2 ?_))
  repeat (first | refine Z0 ?_ | (refine ZR ?_; first | refine x1 ?_ | refine x2 ?_ | refine x8 ?_ | refine Z1 ?_ | refine Z2 ?_ | refine x3 fun _ => ?_ | refine x4 fun _ => ?_ | refine x5 fun _ => ?_ | refine Z3 fun _ => ?_ | refine Z4 fun _ => ?_) | refine Za ?_ | refine Zb ?_ | refine Zl ?_ | refine Zc ?_ | refine Ze ?_ | refine Zi ?_ | refine Zj ?_ | refine Zf ?_ | refine Zg ?_ | refine Zm ?_ | refine Zn ?_ | refine Zo ?_ | refine Zp ?_ | refine Zq ?_ | refine Zr ?_ | refine Zk ?_)
  rw [i64_i (show -9223372036854775808 ≤ (i : Int) + 2 + (m : Int) ∧ (i : Int) + 2 + (m : Int) < 9223372036854775808 by omega)]
  refine rt_midE (ι := Bool) (fun t => t = decide (q0 < 1 ∨ q0 > 5)) (fun t => [(60, .bool t), (7, .int .i64 ((i : Int) + 2 + (m : Int))), (6, .int .i64 q0), (5, .int .i64 (i : Int)), (4, .slice a4 acc.length c4), (3, .pointer (some ⟨t3, 0, none⟩)), (0, .slice (some ⟨b1, o1, none⟩) b.length c)]) (fun _ => (t3, .row [.int .i64 0, .int .i64 0] 2 false) :: (G ++ H)) ?_ ?_
  · refine isRun ?_
    refine z1 (fun h => ?_) (fun h => ?_)
    · repeat (first | refine Z0 ?_ | (refine ZR ?_; first | refine x1 ?_ | refine x2 ?_ | refine x8 ?_ | refine Z1 ?_ | refine Z2 ?_ | refine x3 fun _ => ?_ | refine x4 fun _ => ?_ | refine x5 fun _ => ?_ | refine Z3 fun _ => ?_ | refine Z4 fun _ => ?_) | refine Za ?_ | refine Zb ?_ | refine Zl ?_ | refine Zc ?_ | refine Ze ?_ | refine Zi ?_ | refine Zj ?_ | refine Zf ?_ | refine Zg ?_ | refine Zm ?_ | refine Zn ?_ | refine Zo ?_ | refine Zp ?_ | refine Zq ?_ | refine Zr ?_ | refine Zk ?_)
      exact ⟨true, (decide_eq_true (.inl h)).symm, by repeat (first | exact SubL.nil | refine SubL.cons rfl ?_), List.Sublist.refl _⟩
    · repeat (first | refine Z0 ?_ | (refine ZR ?_; first | refine x1 ?_ | refine x2 ?_ | refine x8 ?_ | refine Z1 ?_ | refine Z2 ?_ | refine x3 fun _ => ?_ | refine x4 fun _ => ?_ | refine x5 fun _ => ?_ | refine Z3 fun _ => ?_ | refine Z4 fun _ => ?_) | refine Za ?_ | refine Zb ?_ | refine Zl ?_ | refine Zc ?_ | refine Ze ?_ | refine Zi ?_ | refine Zj ?_ | refine Zf ?_ | refine Zg ?_ | refine Zm ?_ | refine Zn ?_ | refine Zo ?_ | refine Zp ?_ | refine Zq ?_ | refine Zr ?_ | refine Zk ?_)
      exact ⟨decide (q0 > 5), by rw [decide_eq_decide]; omega, by repeat (first | exact SubL.nil | refine SubL.cons rfl ?_), List.Sublist.refl _⟩
  clear hL0 hL1
  rintro (_ | _) hkd
  rotate_left
  · rw [hbad 6 (by rw [hkb (of_decide_eq_true hkd.symm)]) (by decide)] at hQ
    repeat (first | refine Z0 ?_ | (refine ZR ?_; first | refine x1 ?_ | refine x2 ?_ | refine x8 ?_ | refine Z1 ?_ | refine Z2 ?_ | refine x3 fun _ => ?_ | refine x4 fun _ => ?_ | refine x5 fun _ => ?_ | refine Z3 fun _ => ?_ | refine Z4 fun _ => ?_) | refine Za ?_ | refine Zb ?_ | refine Zl ?_ | refine Zc ?_ | refine Ze ?_ | refine Zi ?_ | refine Zj ?_ | refine Zf ?_ | refine Zg ?_ | refine Zm ?_ | refine Zn ?_ | refine Zo ?_ | refine Zp ?_ | refine Zq ?_ | refine Zr ?_ | refine Zk ?_)
    exact re_tc rfl rfl rfl (.own _ _ hm0) rfl (sz rfl) rfl (by exact drop_auto) (hQ _ _ Own.nil)
  have hkd := of_decide_eq_false hkd.symm
  have hval := fun {H' : Hp} {Q' : Value → Hp → Prop} (hs : H.Sublist H') h' => @hval (by omega) H' Q' hs h'
  have href := href (by omega) (by omega)
  have hxw : (refV q0 (P.drop 2)).wf := refV_wf (fun y hm => hPy y (List.mem_of_mem_drop hm)) (by omega)
  generalize refV q0 (P.drop 2) = x at *
  have hbt := fun {H' : Hp} {Q' : Value → Hp → Prop} h1 h2 => bytes38_ct (B0 := B0) (old := old) (n := n) (H := H') (Q := Q') x hxw h1 h2
  have hPn : P ≠ [] := fun e => by rw [e, List.length_nil] at hPl; omega
  have hBn : nlB x ≠ [] := fun e => by have : (nlB x).length = (nlV x).length + 2 := rfl; rw [e, List.length_nil] at this; omega
  have hen : en60 x = [.int .i64 x.a0, .int .u64 x.a1, .int .u8 x.a2, .int .u8 x.a3, .int .u8 x.a4, .int .u8 x.a5, .int .u8 x.a6, .int .u8 x.a7, .int .u8 x.a8, .int .u8 x.a9, .int .u8 x.a10, .int .u8 x.a11, .int .u32 x.a12, .int .u64 x.a13, .int .u32 x.a14, .bool x.a15, .int .u32 x.a16, .int .i64 x.a17, .int .u32 x.a18, .int .u32 x.a19, .int .u32 x.a20] := rfl
  rw [hen] at hval hbt
  repeat (first | refine Z0 ?_ | (refine ZR ?_; first | refine x1 ?_ | refine x2 ?_ | refine x8 ?_ | refine Z1 ?_ | refine Z2 ?_ | refine x3 fun _ => ?_ | refine x4 fun _ => ?_ | refine x5 fun _ => ?_ | refine Z3 fun _ => ?_ | refine Z4 fun _ => ?_) | refine Za ?_ | refine Zb ?_ | refine Zl ?_ | refine Zc ?_ | refine Ze ?_ | refine Zi ?_ | refine Zj ?_ | refine Zf ?_ | refine Zg ?_ | refine Zm ?_ | refine Zn ?_ | refine Zo ?_ | refine Zp ?_ | refine Zq ?_ | refine Zr ?_ | refine Zk ?_)
  apply rt_p rfl rfl rfl
  case hp => exact p_slc rfl rfl rfl e5
  repeat (first | refine Z0 ?_ | (refine ZR ?_; first | refine x1 ?_ | refine x2 ?_ | refine x8 ?_ | refine Z1 ?_ | refine Z2 ?_ | refine x3 fun _ => ?_ | refine x4 fun _ => ?_ | refine x5 fun _ => ?_ | refine Z3 fun _ => ?_ | refine Z4 fun _ => ?_) | refine Za ?_ | refine Zb ?_ | refine Zl ?_ | refine Zc ?_ | refine Ze ?_ | refine Zi ?_ | refine Zj ?_ | refine Zf ?_ | refine Zg ?_ | refine Zm ?_ | refine Zn ?_ | refine Zo ?_ | refine Zp ?_ | refine Zq ?_ | refine Zr ?_ | refine Zk ?_)
  refine rt_step rfl rfl rfl (st_call rfl rfl rfl rfl (hval (by exact drop_auto) ?_))
  repeat (first | refine Z0 ?_ | (refine ZR ?_; first | refine x1 ?_ | refine x2 ?_ | refine x8 ?_ | refine Z1 ?_ | refine Z2 ?_ | refine x3 fun _ => ?_ | refine x4 fun _ => ?_ | refine x5 fun _ => ?_ | refine Z3 fun _ => ?_ | refine Z4 fun _ => ?_) | refine Za ?_ | refine Zb ?_ | refine Zl ?_ | refine Zc ?_ | refine Ze ?_ | refine Zi ?_ | refine Zj ?_ | refine Zf ?_ | refine Zg ?_ | refine Zm ?_ | refine Zn ?_ | refine Zo ?_ | refine Zp ?_ | refine Zq ?_ | refine Zr ?_ | refine Zk ?_)
  rename_i t8
  refine rt_midE (ι := Int × Value × Hp) (fun j => j.1 = nlCk x ∧ (j.1 = 0 → Own encY 1 (nlB x) j.2.1 j.2.2)) (fun j => [(10, .int .i64 j.1), (9, j.2.1), (8, .pointer (some ⟨t8, 0, none⟩)), (7, .int .i64 ((i : Int) + 2 + (m : Int))), (6, .int .i64 q0), (5, .int .i64 (i : Int)), (4, .slice a4 acc.length c4), (3, .pointer (some ⟨t3, 0, none⟩)), (0, .slice (some ⟨b1, o1, none⟩) b.length c)]) (fun j => j.2.2 ++ ((t8, .row [.int .i64 x.a0, .int .u64 x.a1, .int .u8 x.a2, .int .u8 x.a3, .int .u8 x.a4, .int .u8 x.a5, .int .u8 x.a6, .int .u8 x.a7, .int .u8 x.a8, .int .u8 x.a9, .int .u8 x.a10, .int .u8 x.a11, .int .u32 x.a12, .int .u64 x.a13, .int .u32 x.a14, .bool x.a15, .int .u32 x.a16, .int .i64 x.a17, .int .u32 x.a18, .int .u32 x.a19, .int .u32 x.a20] 21 false) :: (t3, .row [.int .i64 0, .int .i64 0] 2 false) :: (G ++ H))) ?_ ?_
  · refine rt_step rfl rfl rfl (st_call rfl rfl rfl rfl (hbt (fun h => ?_) (fun h v3 G3 o3 => ?_)))
    · repeat (first | refine Z0 ?_ | (refine ZR ?_; first | refine x1 ?_ | refine x2 ?_ | refine x8 ?_ | refine Z1 ?_ | refine Z2 ?_ | refine x3 fun _ => ?_ | refine x4 fun _ => ?_ | refine x5 fun _ => ?_ | refine Z3 fun _ => ?_ | refine Z4 fun _ => ?_) | refine Za ?_ | refine Zb ?_ | refine Zl ?_ | refine Zc ?_ | refine Ze ?_ | refine Zi ?_ | refine Zj ?_ | refine Zf ?_ | refine Zg ?_ | refine Zm ?_ | refine Zn ?_ | refine Zo ?_ | refine Zp ?_ | refine Zq ?_ | refine Zr ?_ | refine Zk ?_)
      exact ⟨(nlCk x, .slice none 0 0, []), ⟨rfl, fun g => absurd g h⟩, by repeat (first | exact SubL.nil | refine SubL.cons rfl ?_), List.Sublist.refl _⟩
    · have o4 := o3
      obtain ⟨a5, c5, e7, _⟩ := o3.arrW (C := cx B0 old) encY_len
      subst e7
      repeat (first | refine Z0 ?_ | (refine ZR ?_; first | refine x1 ?_ | refine x2 ?_ | refine x8 ?_ | refine Z1 ?_ | refine Z2 ?_ | refine x3 fun _ => ?_ | refine x4 fun _ => ?_ | refine x5 fun _ => ?_ | refine Z3 fun _ => ?_ | refine Z4 fun _ => ?_) | refine Za ?_ | refine Zb ?_ | refine Zl ?_ | refine Zc ?_ | refine Ze ?_ | refine Zi ?_ | refine Zj ?_ | refine Zf ?_ | refine Zg ?_ | refine Zm ?_ | refine Zn ?_ | refine Zo ?_ | refine Zp ?_ | refine Zq ?_ | refine Zr ?_ | refine Zk ?_)
      exact ⟨(0, _, G3), ⟨h.symm, fun _ => o4⟩, by repeat (first | exact SubL.nil | refine SubL.cons rfl ?_), List.Sublist.refl _⟩
  rintro ⟨ck, v3, G3⟩ ⟨hck, o3⟩
  dsimp only at hck o3 ⊢
  refine ct_seq ?_
  refine ct_seq ?_
  refine ct_midE (ι := Bool) (fun t => t = !decide (ck = 0 ∧ nlB x = P)) (fun t => [(86, .bool t), (8, .pointer (some ⟨t8, 0, none⟩)), (7, .int .i64 ((i : Int) + 2 + (m : Int))), (6, .int .i64 q0), (5, .int .i64 (i : Int)), (4, .slice a4 acc.length c4), (3, .pointer (some ⟨t3, 0, none⟩)), (0, .slice (some ⟨b1, o1, none⟩) b.length c)]) (fun _ => (t8, .row [.int .i64 x.a0, .int .u64 x.a1, .int .u8 x.a2, .int .u8 x.a3, .int .u8 x.a4, .int .u8 x.a5, .int .u8 x.a6, .int .u8 x.a7, .int .u8 x.a8, .int .u8 x.a9, .int .u8 x.a10, .int .u8 x.a11, .int .u32 x.a12, .int .u64 x.a13, .int .u32 x.a14, .bool x.a15, .int .u32 x.a16, .int .i64 x.a17, .int .u32 x.a18, .int .u32 x.a19, .int .u32 x.a20] 21 false) :: (t3, .row [.int .i64 0, .int .i64 0] 2 false) :: (G ++ H)) ?_ ?_
  · refine ct_draw (masks := [0, 1, 3, 7, 15, 7, 7, 7, 231, 487, 1023, 2047]) (plan := [0, 1, 2, 3, 4, 5, 6, 7, 8, 9, 10, 11]) (E := []) (by kernel_rfl) (by kernel_rfl) (by kernel_rfl) (by kernel_rfl) ?_
    repeat (first | refine Y0 ?_ | (refine YP ?_; first | refine y1 ?_ | refine y2 ?_ | refine Y1 ?_ | refine Y2 ?_))
    by_cases hc0 : ck = 0
    · subst hc0
      have o3 := o3 rfl
      obtain ⟨a5, c5, e7, g5⟩ := o3.arrW (C := cx B0 old) encY_len
      subst e7
      obtain ⟨a6, c6, e8, g6, _⟩ := hv6.arr
      subst e8
      repeat (first | refine Y0 ?_ | (refine YP ?_; first | refine y1 ?_ | refine y2 ?_ | refine Y1 ?_ | refine Y2 ?_))
      refine pl_R rfl rfl rfl rfl rfl rfl (rd_str (g5 [] _) rfl rfl rfl rfl (.inl hBn)) ?_
      repeat (first | refine Y0 ?_ | (refine YP ?_; first | refine y1 ?_ | refine y2 ?_ | refine Y1 ?_ | refine Y2 ?_))
      refine pl_p rfl rfl rfl rfl rfl rfl (p_slc rfl rfl rfl e6) ?_
      repeat (first | refine Y0 ?_ | (refine YP ?_; first | refine y1 ?_ | refine y2 ?_ | refine Y1 ?_ | refine Y2 ?_))
      refine pl_R rfl rfl rfl rfl rfl rfl (rd_str (g6.weak (by exact drop_auto)) (by rw [hPl]; rfl) rfl rfl rfl (.inl hPn)) ?_
      repeat (first | refine Y0 ?_ | (refine YP ?_; first | refine y1 ?_ | refine y2 ?_ | refine Y1 ?_ | refine Y2 ?_))
      refine pl_p rfl rfl rfl rfl rfl rfl (p_neqStr rfl rfl (nlB_z hxw (nlOk_iff.1 hck.symm)) hPy) ?_
      repeat (first | refine Y0 ?_ | (refine YP ?_; first | refine y1 ?_ | refine y2 ?_ | refine Y1 ?_ | refine Y2 ?_))
      repeat (first | refine Z0 ?_ | (refine ZR ?_; first | refine x1 ?_ | refine x2 ?_ | refine x8 ?_ | refine Z1 ?_ | refine Z2 ?_ | refine x3 fun _ => ?_ | refine x4 fun _ => ?_ | refine x5 fun _ => ?_ | refine Z3 fun _ => ?_ | refine Z4 fun _ => ?_) | refine Za ?_ | refine Zb ?_ | refine Zl ?_ | refine Zc ?_ | refine Ze ?_ | refine Zi ?_ | refine Zj ?_ | refine Zf ?_ | refine Zg ?_ | refine Zm ?_ | refine Zn ?_ | refine Zo ?_ | refine Zp ?_ | refine Zq ?_ | refine Zr ?_ | refine Zk ?_)
      exact ⟨!decide (nlB x = P), by simp, by repeat (first | exact SubL.nil | refine SubL.cons rfl ?_), by exact drop_auto⟩
    · rw [show (ck != 0) = true by simp [hc0]]
      repeat (first | refine Y0 ?_ | (refine YP ?_; first | refine y1 ?_ | refine y2 ?_ | refine Y1 ?_ | refine Y2 ?_))
      repeat (first | refine Z0 ?_ | (refine ZR ?_; first | refine x1 ?_ | refine x2 ?_ | refine x8 ?_ | refine Z1 ?_ | refine Z2 ?_ | refine x3 fun _ => ?_ | refine x4 fun _ => ?_ | refine x5 fun _ => ?_ | refine Z3 fun _ => ?_ | refine Z4 fun _ => ?_) | refine Za ?_ | refine Zb ?_ | refine Zl ?_ | refine Zc ?_ | refine Ze ?_ | refine Zi ?_ | refine Zj ?_ | refine Zf ?_ | refine Zg ?_ | refine Zm ?_ | refine Zn ?_ | refine Zo ?_ | refine Zp ?_ | refine Zq ?_ | refine Zr ?_ | refine Zk ?_)
      exact ⟨true, by simp [hc0], by repeat (first | exact SubL.nil | refine SubL.cons rfl ?_), by exact drop_auto⟩
  rintro (_ | _) ht
  rotate_left
  · have ht : ¬ (ck = 0 ∧ nlB x = P) := fun g => by rw [decide_eq_true g] at ht; cases ht
    have h3 : dcR P = (zS, 3) := href.2 (by
      by_cases g : ck = 0
      · exact .inr fun e => ht ⟨g, e⟩
      · exact .inl (by rw [← hck]; exact g))
    rw [hbad 3 (by rw [h3]) (by decide)] at hQ
    repeat (first | refine Z0 ?_ | (refine ZR ?_; first | refine x1 ?_ | refine x2 ?_ | refine x8 ?_ | refine Z1 ?_ | refine Z2 ?_ | refine x3 fun _ => ?_ | refine x4 fun _ => ?_ | refine x5 fun _ => ?_ | refine Z3 fun _ => ?_ | refine Z4 fun _ => ?_) | refine Za ?_ | refine Zb ?_ | refine Zl ?_ | refine Zc ?_ | refine Ze ?_ | refine Zi ?_ | refine Zj ?_ | refine Zf ?_ | refine Zg ?_ | refine Zm ?_ | refine Zn ?_ | refine Zo ?_ | refine Zp ?_ | refine Zq ?_ | refine Zr ?_ | refine Zk ?_)
    exact re_tc rfl rfl rfl (.own _ _ hm1) rfl (sz rfl) rfl (by exact drop_auto) (hQ _ _ Own.nil)
  have ht : ck = 0 ∧ nlB x = P := Classical.byContradiction fun g => by rw [decide_eq_false g] at ht; cases ht
  have h3 : dcR P = (x, 0) := href.1 (by rw [← hck]; exact ht.1) ht.2
  rw [h3] at hstep
  dsimp only at hstep
  rw [if_neg (fun g => g rfl)] at hstep
  repeat (first | refine Z0 ?_ | (refine ZR ?_; first | refine x1 ?_ | refine x2 ?_ | refine x8 ?_ | refine Z1 ?_ | refine Z2 ?_ | refine x3 fun _ => ?_ | refine x4 fun _ => ?_ | refine x5 fun _ => ?_ | refine Z3 fun _ => ?_ | refine Z4 fun _ => ?_) | refine Za ?_ | refine Zb ?_ | refine Zl ?_ | refine Zc ?_ | refine Ze ?_ | refine Zi ?_ | refine Zj ?_ | refine Zf ?_ | refine Zg ?_ | refine Zm ?_ | refine Zn ?_ | refine Zo ?_ | refine Zp ?_ | refine Zq ?_ | refine Zr ?_ | refine Zk ?_)
  refine rt_step rfl rfl rfl (st_appP (M := [x]) (c := 1) (pre := [_, _, _]) ho2 en60_len en60_one rfl rfl (ap rfl) (arrW_one en60_len hm0) (Nat.le_trans (Nat.mul_le_mul_right _ (show 2 * (acc.length + [x].length) + 192 ≤ 4000 by simp only [List.length_singleton]; omega)) (by decide)) fun v7 G7 o7 => ?_)
  repeat (first | refine Z0 ?_ | (refine ZR ?_; first | refine x1 ?_ | refine x2 ?_ | refine x8 ?_ | refine Z1 ?_ | refine Z2 ?_ | refine x3 fun _ => ?_ | refine x4 fun _ => ?_ | refine x5 fun _ => ?_ | refine Z3 fun _ => ?_ | refine Z4 fun _ => ?_) | refine Za ?_ | refine Zb ?_ | refine Zl ?_ | refine Zc ?_ | refine Ze ?_ | refine Zi ?_ | refine Zj ?_ | refine Zf ?_ | refine Zg ?_ | refine Zm ?_ | refine Zn ?_ | refine Zo ?_ | refine Zp ?_ | refine Zq ?_ | refine Zr ?_ | refine Zk ?_)
  exact ⟨(i + (2 + m), acc ++ [x], v7, G7), ⟨by dsimp only; omega, o7, by dsimp only; rw [List.length_append, List.length_singleton]; omega, hstep.symm⟩, by dsimp only; omega, by
    refine SubL.consI (q := (i : Int) + 2 + (m : Int)) rfl (by dsimp only; omega) ?_
    repeat (first | exact SubL.nil | refine SubL.cons rfl ?_), by exact drop_auto⟩
theorem nread11_ct (h1 : ArrW (cx B0 old) H ad 1 encY b) (hc1 : b.length ≤ c) (hm1 : c < EL) (had : (ad = none ∧ c = 0) ∨ ∃ b o, ad = some ⟨b, o, none⟩) (hy : ∀ y ∈ b, isY y) (hQ : ∀ H', Q (.bool true) H') :
    CallT (cx B0 old) (acall (cx B0 old) ansP (n + 13)) 11 [.slice ad b.length c] H Q := by
  refine call_in1 31 rfl Try.func11 rfl rfl ?_
  repeat (first | refine Z0 ?_ | (refine ZR ?_; first | refine x1 ?_ | refine x2 ?_ | refine x8 ?_ | refine Z1 ?_ | refine Z2 ?_ | refine x3 fun _ => ?_ | refine x4 fun _ => ?_ | refine x5 fun _ => ?_ | refine Z3 fun _ => ?_ | refine Z4 fun _ => ?_) | refine Za ?_ | refine Zb ?_ | refine Zl ?_ | refine Zc ?_ | refine Ze ?_ | refine Zi ?_ | refine Zj ?_ | refine Zf ?_ | refine Zg ?_ | refine Zm ?_ | refine Zn ?_ | refine Zo ?_ | refine Zp ?_ | refine Zq ?_ | refine Zr ?_ | refine Zk ?_)
  refine rt_step rfl rfl rfl (st_call rfl rfl rfl rfl (call_ext rfl ?_))
  repeat (first | refine Z0 ?_ | (refine ZR ?_; first | refine x1 ?_ | refine x2 ?_ | refine x8 ?_ | refine Z1 ?_ | refine Z2 ?_ | refine x3 fun _ => ?_ | refine x4 fun _ => ?_ | refine x5 fun _ => ?_ | refine Z3 fun _ => ?_ | refine Z4 fun _ => ?_) | refine Za ?_ | refine Zb ?_ | refine Zl ?_ | refine Zc ?_ | refine Ze ?_ | refine Zi ?_ | refine Zj ?_ | refine Zf ?_ | refine Zg ?_ | refine Zm ?_ | refine Zn ?_ | refine Zo ?_ | refine Zp ?_ | refine Zq ?_ | refine Zr ?_ | refine Zk ?_)
  refine ct_condT te_d rfl (fun hc => ?_) (fun hc => ?_)
  · repeat (first | refine Z0 ?_ | (refine ZR ?_; first | refine x1 ?_ | refine x2 ?_ | refine x8 ?_ | refine Z1 ?_ | refine Z2 ?_ | refine x3 fun _ => ?_ | refine x4 fun _ => ?_ | refine x5 fun _ => ?_ | refine Z3 fun _ => ?_ | refine Z4 fun _ => ?_) | refine Za ?_ | refine Zb ?_ | refine Zl ?_ | refine Zc ?_ | refine Ze ?_ | refine Zi ?_ | refine Zj ?_ | refine Zf ?_ | refine Zg ?_ | refine Zm ?_ | refine Zn ?_ | refine Zo ?_ | refine Zp ?_ | refine Zq ?_ | refine Zr ?_ | refine Zk ?_)
    exact re_1 rfl rfl (List.Sublist.refl _) (hQ _)
  have hbl : b.length ≤ 400 := by omega
  have hcv : ∀ {H1}, H.Sublist H1 → CutV (cx B0 old) H1 encY 1 b (.slice ad b.length c) := fun hs => by
    by_cases hne : b = []
    · subst hne
      rcases had with ⟨rfl, rfl⟩ | ⟨b', o', rfl⟩
      · exact .nil
      · exact .fx b' o' c [] .nil hc1 hm1
    · exact arg_cutV (h1.weak hs) hne hc1 hm1
  repeat (first | refine Z0 ?_ | (refine ZR ?_; first | refine x1 ?_ | refine x2 ?_ | refine x8 ?_ | refine Z1 ?_ | refine Z2 ?_ | refine x3 fun _ => ?_ | refine x4 fun _ => ?_ | refine x5 fun _ => ?_ | refine Z3 fun _ => ?_ | refine Z4 fun _ => ?_) | refine Za ?_ | refine Zb ?_ | refine Zl ?_ | refine Zc ?_ | refine Ze ?_ | refine Zi ?_ | refine Zj ?_ | refine Zf ?_ | refine Zg ?_ | refine Zm ?_ | refine Zn ?_ | refine Zo ?_ | refine Zp ?_ | refine Zq ?_ | refine Zr ?_ | refine Zk ?_)
  refine rt_step rfl rfl rfl (st_call rfl rfl rfl rfl (own31n_ct h1 (by omega) fun v G o => ?_))
  have hov := o.cutV (C := cx B0 old) (pre := []) (H0 := H) encY_len
  repeat (first | refine Z0 ?_ | (refine ZR ?_; first | refine x1 ?_ | refine x2 ?_ | refine x8 ?_ | refine Z1 ?_ | refine Z2 ?_ | refine x3 fun _ => ?_ | refine x4 fun _ => ?_ | refine x5 fun _ => ?_ | refine Z3 fun _ => ?_ | refine Z4 fun _ => ?_) | refine Za ?_ | refine Zb ?_ | refine Zl ?_ | refine Zc ?_ | refine Ze ?_ | refine Zi ?_ | refine Zj ?_ | refine Zf ?_ | refine Zg ?_ | refine Zm ?_ | refine Zn ?_ | refine Zo ?_ | refine Zp ?_ | refine Zq ?_ | refine Zr ?_ | refine Zk ?_)
  refine rt_step rfl rfl rfl (st_call rfl rfl rfl rfl (read47_ct hov.a hy (by omega) fun v1 G1 o1 => ?_))
  obtain ⟨a1, c1, e1, g1⟩ := o1.arrW (C := cx B0 old) en60_len
  subst e1
  repeat (first | refine Z0 ?_ | (refine ZR ?_; first | refine x1 ?_ | refine x2 ?_ | refine x8 ?_ | refine Z1 ?_ | refine Z2 ?_ | refine x3 fun _ => ?_ | refine x4 fun _ => ?_ | refine x5 fun _ => ?_ | refine Z3 fun _ => ?_ | refine Z4 fun _ => ?_) | refine Za ?_ | refine Zb ?_ | refine Zl ?_ | refine Zc ?_ | refine Ze ?_ | refine Zi ?_ | refine Zj ?_ | refine Zf ?_ | refine Zg ?_ | refine Zm ?_ | refine Zn ?_ | refine Zo ?_ | refine Zp ?_ | refine Zq ?_ | refine Zr ?_ | refine Zk ?_)
  refine rt_step rfl rfl rfl (st_call rfl rfl rfl rfl (rread48_ct (n := n + 7) (hcv (by exact drop_auto)) (h1.weak (by exact drop_auto)) hy (by omega) fun v2 G2 o2 => ?_))
  obtain ⟨a2, c2, e2, g2⟩ := o2.arrW (C := cx B0 old) en60_len
  subst e2
  have hlen : (nlRd b).1.length ≤ 100000 := by
    rcases nlRd_spec hy with ⟨er, at', hr, _⟩ | ⟨V, hr, hcat, _⟩
    · rw [hr]
      exact Nat.zero_le _
    · rw [hr]
      have := catB_ge V
      rw [hcat] at this
      dsimp only
      omega
  generalize nlRd b = r at *
  obtain ⟨V, er, ea⟩ := r
  dsimp only at o1 o2 g1 g2 hlen ⊢
  repeat (first | refine Z0 ?_ | (refine ZR ?_; first | refine x1 ?_ | refine x2 ?_ | refine x8 ?_ | refine Z1 ?_ | refine Z2 ?_ | refine x3 fun _ => ?_ | refine x4 fun _ => ?_ | refine x5 fun _ => ?_ | refine Z3 fun _ => ?_ | refine Z4 fun _ => ?_) | refine Za ?_ | refine Zb ?_ | refine Zl ?_ | refine Zc ?_ | refine Ze ?_ | refine Zi ?_ | refine Zj ?_ | refine Zf ?_ | refine Zg ?_ | refine Zm ?_ | refine Zn ?_ | refine Zo ?_ | refine Zp ?_ | refine Zq ?_ | refine Zr ?_ | refine Zk ?_)
  refine rt_step rfl rfl rfl (st_call rfl rfl rfl rfl (same49_ct (((g1 [] _).arr en60_len).weak (by exact drop_auto)) (((g2 [] _).arr en60_len).weak (by exact drop_auto)) hlen ?_))
  repeat (first | refine Z0 ?_ | (refine ZR ?_; first | refine x1 ?_ | refine x2 ?_ | refine x8 ?_ | refine Z1 ?_ | refine Z2 ?_ | refine x3 fun _ => ?_ | refine x4 fun _ => ?_ | refine x5 fun _ => ?_ | refine Z3 fun _ => ?_ | refine Z4 fun _ => ?_) | refine Za ?_ | refine Zb ?_ | refine Zl ?_ | refine Zc ?_ | refine Ze ?_ | refine Zi ?_ | refine Zj ?_ | refine Zf ?_ | refine Zg ?_ | refine Zm ?_ | refine Zn ?_ | refine Zo ?_ | refine Zp ?_ | refine Zq ?_ | refine Zr ?_ | refine Zk ?_)
  rw [show leafsEq [Value.int .i64 er, .int .i64 ea] [.int .i64 er, .int .i64 ea] = true by simp [leafsEq, leafEq]]
  exact re_1 rfl rfl (List.Sublist.refl _) (hQ _)
end
end Go.Proofs.Ytjdppdoakbojcaa.Abs
