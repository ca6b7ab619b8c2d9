/- Elements of slices; equal lists; routes one after the other are read. -/
import Derived.Test.YtjdppdoakbojcaaNx
import Derived.Test.YtjdppdoakbojcaaLives
namespace Go.Proofs.Ytjdppdoakbojcaa.Abs
open Go
set_option linter.unusedVariables false
theorem Arr.ldE {C : Ctx} {H : Hp} {α : Type} {en : α → List Value} {L : List α} {w : Nat} {ad : Option Addr} {i : Nat} {a : α} (h : Arr C H ad w en L) (hi : L[i]? = some a) : ∃ b o, ad = some ⟨b, o, none⟩ ∧
    (∀ (t : TypeId), aggAt C t = some true → sizeAt C t = some w → ∀ H', H.Sublist H' → LdT C t H' b (o + i * w) (.agg ⟨en a⟩)) ∧
    (∀ (t n f : Nat) (u : Value), (en a)[f]? = some u → f < w → aggAt C t = some false → sizeAt C t = some n → ∀ H', H.Sublist H' → LdT C t H' b (o + i * w + f) u) := by
  obtain ⟨b, o, e, h1⟩ := h.agg hi
  obtain ⟨b', o', e', h2⟩ := h.fld hi
  rw [e] at e'
  cases e'
  refine ⟨b, o, e, fun t g1 g2 H' hs => ?_, fun t n f u g1 g2 g3 g4 H' hs => ?_⟩
  · unfold LdT
    exact fun l x hx => h1 t H' l x hs g1 g2 hx
  · unfold LdT
    exact fun l x hx => h2 f n u t H' l x hs g1 g2 g3 g4 hx
def catB (V : List S60) : List Int := V.flatMap nlB
/-- Encoded routes one after the other are read. -/
theorem nlR_cat : ∀ (V : List S60) (i : Nat) (acc : List S60), (∀ x ∈ V, x.wf ∧ NlOk x) → nlR ((catB V).length + 1) (catB V) i acc = (acc ++ V, 0, 0)
  | [], i, acc, _ => by rw [List.append_nil]; rfl
  | x :: V, i, acc, h => by
    obtain ⟨hw, ok⟩ := h x (List.mem_cons_self ..)
    have hcat : catB (x :: V) = nlB x ++ catB V := rfl
    have hl : (nlB x).length = (nlV x).length + 2 := rfl
    have hne : catB (x :: V) ≠ [] := by rw [hcat]; intro e; cases e
    have hsz : pcSz (catB (x :: V)) = (nlB x).length := by
      rw [hcat]
      unfold pcSz
      rw [List.length_append, if_pos (by omega)]
      have : (nlB x ++ catB V).getD 1 0 = ((nlV x).length : Int) := rfl
      rw [this]
      omega
    have htk : (catB (x :: V)).take (nlB x).length = nlB x := by rw [hcat]; exact List.take_left' rfl
    have hdr : (catB (x :: V)).drop (nlB x).length = catB V := by rw [hcat]; exact List.drop_left' rfl
    rw [nlR_step hne, hsz, htk, hdr, dc_B hw ok, if_neg (fun h => h rfl), nlR_cat V _ _ (fun y hy => h y (List.mem_cons_of_mem _ hy)), List.append_assoc]
    rfl
theorem nlRd_cat {V : List S60} (h : ∀ x ∈ V, x.wf ∧ NlOk x) : nlRd (catB V) = (V, 0, 0) := by
  unfold nlRd
  rw [nlR_cat V 0 [] h]
  rfl
section
variable {B0 : Nat} {old : Nat → Option (List Value)} {n : Nat} {H : Hp} {Q : Value → Hp → Prop} {ad ad2 : Option Addr} {c c2 : Nat} {A : List S60} {L : List Int}
set_option maxRecDepth 10000
set_option maxHeartbeats 8000000
theorem same49_ct (h1 : Arr (cx B0 old) H ad 21 en60 A) (h2 : Arr (cx B0 old) H ad2 21 en60 A) (hl : A.length ≤ 100000) (hQ : Q (.bool true) H) : CallT (cx B0 old) (acall (cx B0 old) ansP (n + 1)) 49 [.slice ad A.length c, .slice ad2 A.length c2] H Q := by
  refine call_in2 26 rfl Try.func49 rfl rfl ?_
  repeat (first | refine Z0 ?_ | (refine ZR ?_; first | refine x1 ?_ | refine x2 ?_ | refine x8 ?_ | refine Z1 ?_ | refine Z2 ?_ | refine x3 fun _ => ?_ | refine x4 fun _ => ?_ | refine x5 fun _ => ?_ | refine Z3 fun _ => ?_ | refine Z4 fun _ => ?_) | refine Za ?_ | refine Zb ?_ | refine Zl ?_ | refine Zc ?_ | refine Ze ?_ | refine Zi ?_ | refine Zj ?_ | refine Zf ?_ | refine Zg ?_ | refine Zm ?_ | refine Zn ?_ | refine Zo ?_ | refine Zp ?_ | refine Zq ?_ | refine Zr ?_ | refine Zk ?_)
  refine ct_condT te_ne rfl (fun hc => absurd rfl hc) (fun _ => ?_)
  repeat (first | refine Z0 ?_ | (refine ZR ?_; first | refine x1 ?_ | refine x2 ?_ | refine x8 ?_ | refine Z1 ?_ | refine Z2 ?_ | refine x3 fun _ => ?_ | refine x4 fun _ => ?_ | refine x5 fun _ => ?_ | refine Z3 fun _ => ?_ | refine Z4 fun _ => ?_) | refine Za ?_ | refine Zb ?_ | refine Zl ?_ | refine Zc ?_ | refine Ze ?_ | refine Zi ?_ | refine Zj ?_ | refine Zf ?_ | refine Zg ?_ | refine Zm ?_ | refine Zn ?_ | refine Zo ?_ | refine Zp ?_ | refine Zq ?_ | refine Zr ?_ | refine Zk ?_)
  refine loop_ind (ι := Nat) 0 (fun i => A.length - i) (fun i => i ≤ A.length) (fun i => [(5, .int .i64 (i : Int)), (0, .slice ad A.length c), (1, .slice ad2 A.length c2)]) (fun _ => H) (Nat.zero_le _) (by repeat (first | exact SubL.nil | refine SubL.cons rfl ?_)) (by exact drop_auto) ?_
  intro i hi
  repeat (first | refine Z0 ?_ | (refine ZR ?_; first | refine x1 ?_ | refine x2 ?_ | refine x8 ?_ | refine Z1 ?_ | refine Z2 ?_ | refine x3 fun _ => ?_ | refine x4 fun _ => ?_ | refine x5 fun _ => ?_ | refine Z3 fun _ => ?_ | refine Z4 fun _ => ?_) | refine Za ?_ | refine Zb ?_ | refine Zl ?_ | refine Zc ?_ | refine Ze ?_ | refine Zi ?_ | refine Zj ?_ | refine Zf ?_ | refine Zg ?_ | refine Zm ?_ | refine Zn ?_ | refine Zo ?_ | refine Zp ?_ | refine Zq ?_ | refine Zr ?_ | refine Zk ?_)
  refine ct_condT te_d rfl (fun hc => ?_) (fun hc => ?_)
  · obtain ⟨a, ha⟩ : ∃ x, A[i]? = some x := ⟨_, List.getElem?_eq_getElem (by omega)⟩
    obtain ⟨b1, o1, e1, k1, _⟩ := h1.ldE ha
    obtain ⟨b2, o2, e2, k2, _⟩ := h2.ldE ha
    subst e1
    subst e2
    have hL0 := k1 60 rfl (sz rfl)
    have hL1 := k2 60 rfl (sz rfl)
    have hs := leaf60 a
    unfold en60 at hL0 hL1 hs
    repeat (first | refine Z0 ?_ | (refine ZR ?_; first | refine x1 ?_ | refine x2 ?_ | refine x8 ?_ | refine Z1 ?_ | refine Z2 ?_ | refine x3 fun _ => ?_ | refine x4 fun _ => ?_ | refine x5 fun _ => ?_ | refine Z3 fun _ => ?_ | refine Z4 fun _ => ?_) | refine Za ?_ | refine Zb ?_ | refine Zl ?_ | refine Zc ?_ | refine Ze ?_ | refine Zi ?_ | refine Zj ?_ | refine Zf ?_ | refine Zg ?_ | refine Zm ?_ | refine Zn ?_ | refine Zo ?_ | refine Zp ?_ | refine Zq ?_ | refine Zr ?_ | refine Zk ?_)
    refine ct_draw (masks := [0, 0, 3, 7, 0, 0, 48, 112, 255]) (plan := [0, 1, 2, 3, 4, 5, 6, 7, 8]) (E := []) (by kernel_rfl) (by kernel_rfl) (by kernel_rfl) (by kernel_rfl) ?_
    repeat (first | refine Y0 ?_ | (refine YP ?_; first | refine y1 ?_ | refine y2 ?_ | refine Y1 ?_ | refine Y2 ?_))
    rw [hs]
    repeat (first | refine Y0 ?_ | (refine YP ?_; first | refine y1 ?_ | refine y2 ?_ | refine Y1 ?_ | refine Y2 ?_))
    repeat (first | refine Z0 ?_ | (refine ZR ?_; first | refine x1 ?_ | refine x2 ?_ | refine x8 ?_ | refine Z1 ?_ | refine Z2 ?_ | refine x3 fun _ => ?_ | refine x4 fun _ => ?_ | refine x5 fun _ => ?_ | refine Z3 fun _ => ?_ | refine Z4 fun _ => ?_) | refine Za ?_ | refine Zb ?_ | refine Zl ?_ | refine Zc ?_ | refine Ze ?_ | refine Zi ?_ | refine Zj ?_ | refine Zf ?_ | refine Zg ?_ | refine Zm ?_ | refine Zn ?_ | refine Zo ?_ | refine Zp ?_ | refine Zq ?_ | refine Zr ?_ | refine Zk ?_)
    exact ⟨i + 1, by omega, by omega, by repeat (first | exact SubL.nil | refine SubL.cons rfl ?_), by exact drop_auto⟩
  · repeat (first | refine Z0 ?_ | (refine ZR ?_; first | refine x1 ?_ | refine x2 ?_ | refine x8 ?_ | refine Z1 ?_ | refine Z2 ?_ | refine x3 fun _ => ?_ | refine x4 fun _ => ?_ | refine x5 fun _ => ?_ | refine Z3 fun _ => ?_ | refine Z4 fun _ => ?_) | refine Za ?_ | refine Zb ?_ | refine Zl ?_ | refine Zc ?_ | refine Ze ?_ | refine Zi ?_ | refine Zj ?_ | refine Zf ?_ | refine Zg ?_ | refine Zm ?_ | refine Zn ?_ | refine Zo ?_ | refine Zp ?_ | refine Zq ?_ | refine Zr ?_ | refine Zk ?_)
    exact re_1 rfl rfl (by exact drop_auto) hQ
theorem same50_ct (h1 : Arr (cx B0 old) H ad 1 encY L) (h2 : Arr (cx B0 old) H ad2 1 encY L) (hl : L.length ≤ 100000) (hQ : Q (.bool true) H) : CallT (cx B0 old) (acall (cx B0 old) ansP (n + 1)) 50 [.slice ad L.length c, .slice ad2 L.length c2] H Q := by
  refine call_in2 26 rfl Try.func50 rfl rfl ?_
  repeat (first | refine Z0 ?_ | (refine ZR ?_; first | refine x1 ?_ | refine x2 ?_ | refine x8 ?_ | refine Z1 ?_ | refine Z2 ?_ | refine x3 fun _ => ?_ | refine x4 fun _ => ?_ | refine x5 fun _ => ?_ | refine Z3 fun _ => ?_ | refine Z4 fun _ => ?_) | refine Za ?_ | refine Zb ?_ | refine Zl ?_ | refine Zc ?_ | refine Ze ?_ | refine Zi ?_ | refine Zj ?_ | refine Zf ?_ | refine Zg ?_ | refine Zm ?_ | refine Zn ?_ | refine Zo ?_ | refine Zp ?_ | refine Zq ?_ | refine Zr ?_ | refine Zk ?_)
  refine ct_condT te_ne rfl (fun hc => absurd rfl hc) (fun _ => ?_)
  repeat (first | refine Z0 ?_ | (refine ZR ?_; first | refine x1 ?_ | refine x2 ?_ | refine x8 ?_ | refine Z1 ?_ | refine Z2 ?_ | refine x3 fun _ => ?_ | refine x4 fun _ => ?_ | refine x5 fun _ => ?_ | refine Z3 fun _ => ?_ | refine Z4 fun _ => ?_) | refine Za ?_ | refine Zb ?_ | refine Zl ?_ | refine Zc ?_ | refine Ze ?_ | refine Zi ?_ | refine Zj ?_ | refine Zf ?_ | refine Zg ?_ | refine Zm ?_ | refine Zn ?_ | refine Zo ?_ | refine Zp ?_ | refine Zq ?_ | refine Zr ?_ | refine Zk ?_)
  refine loop_ind (ι := Nat) 0 (fun i => L.length - i) (fun i => i ≤ L.length) (fun i => [(5, .int .i64 (i : Int)), (0, .slice ad L.length c), (1, .slice ad2 L.length c2)]) (fun _ => H) (Nat.zero_le _) (by repeat (first | exact SubL.nil | refine SubL.cons rfl ?_)) (by exact drop_auto) ?_
  intro i hi
  repeat (first | refine Z0 ?_ | (refine ZR ?_; first | refine x1 ?_ | refine x2 ?_ | refine x8 ?_ | refine Z1 ?_ | refine Z2 ?_ | refine x3 fun _ => ?_ | refine x4 fun _ => ?_ | refine x5 fun _ => ?_ | refine Z3 fun _ => ?_ | refine Z4 fun _ => ?_) | refine Za ?_ | refine Zb ?_ | refine Zl ?_ | refine Zc ?_ | refine Ze ?_ | refine Zi ?_ | refine Zj ?_ | refine Zf ?_ | refine Zg ?_ | refine Zm ?_ | refine Zn ?_ | refine Zo ?_ | refine Zp ?_ | refine Zq ?_ | refine Zr ?_ | refine Zk ?_)
  refine ct_condT te_d rfl (fun hc => ?_) (fun hc => ?_)
  · obtain ⟨a, ha⟩ : ∃ x, L[i]? = some x := ⟨_, List.getElem?_eq_getElem (by omega)⟩
    obtain ⟨b1, o1, e1, hL0⟩ := h1.ld1 5 ha rfl rfl (sz rfl)
    obtain ⟨b2, o2, e2, hL1⟩ := h2.ld1 5 ha rfl rfl (sz rfl)
    subst e1
    subst e2
    repeat (first | refine Z0 ?_ | (refine ZR ?_; first | refine x1 ?_ | refine x2 ?_ | refine x8 ?_ | refine Z1 ?_ | refine Z2 ?_ | refine x3 fun _ => ?_ | refine x4 fun _ => ?_ | refine x5 fun _ => ?_ | refine Z3 fun _ => ?_ | refine Z4 fun _ => ?_) | refine Za ?_ | refine Zb ?_ | refine Zl ?_ | refine Zc ?_ | refine Ze ?_ | refine Zi ?_ | refine Zj ?_ | refine Zf ?_ | refine Zg ?_ | refine Zm ?_ | refine Zn ?_ | refine Zo ?_ | refine Zp ?_ | refine Zq ?_ | refine Zr ?_ | refine Zk ?_)
    refine ct_draw (masks := [0, 0, 3, 7, 0, 0, 48, 112, 255]) (plan := [0, 1, 2, 3, 4, 5, 6, 7, 8]) (E := []) (by kernel_rfl) (by kernel_rfl) (by kernel_rfl) (by kernel_rfl) ?_
    repeat (first | refine Y0 ?_ | (refine YP ?_; first | refine y1 ?_ | refine y2 ?_ | refine Y1 ?_ | refine Y2 ?_))
    repeat (first | refine Z0 ?_ | (refine ZR ?_; first | refine x1 ?_ | refine x2 ?_ | refine x8 ?_ | refine Z1 ?_ | refine Z2 ?_ | refine x3 fun _ => ?_ | refine x4 fun _ => ?_ | refine x5 fun _ => ?_ | refine Z3 fun _ => ?_ | refine Z4 fun _ => ?_) | refine Za ?_ | refine Zb ?_ | refine Zl ?_ | refine Zc ?_ | refine Ze ?_ | refine Zi ?_ | refine Zj ?_ | refine Zf ?_ | refine Zg ?_ | refine Zm ?_ | refine Zn ?_ | refine Zo ?_ | refine Zp ?_ | refine Zq ?_ | refine Zr ?_ | refine Zk ?_)
    refine ct_condT te_ne rfl (fun hc => absurd rfl hc) (fun _ => ?_)
    repeat (first | refine Z0 ?_ | (refine ZR ?_; first | refine x1 ?_ | refine x2 ?_ | refine x8 ?_ | refine Z1 ?_ | refine Z2 ?_ | refine x3 fun _ => ?_ | refine x4 fun _ => ?_ | refine x5 fun _ => ?_ | refine Z3 fun _ => ?_ | refine Z4 fun _ => ?_) | refine Za ?_ | refine Zb ?_ | refine Zl ?_ | refine Zc ?_ | refine Ze ?_ | refine Zi ?_ | refine Zj ?_ | refine Zf ?_ | refine Zg ?_ | refine Zm ?_ | refine Zn ?_ | refine Zo ?_ | refine Zp ?_ | refine Zq ?_ | refine Zr ?_ | refine Zk ?_)
    exact ⟨i + 1, by omega, by omega, by repeat (first | exact SubL.nil | refine SubL.cons rfl ?_), by exact drop_auto⟩
  · repeat (first | refine Z0 ?_ | (refine ZR ?_; first | refine x1 ?_ | refine x2 ?_ | refine x8 ?_ | refine Z1 ?_ | refine Z2 ?_ | refine x3 fun _ => ?_ | refine x4 fun _ => ?_ | refine x5 fun _ => ?_ | refine Z3 fun _ => ?_ | refine Z4 fun _ => ?_) | refine Za ?_ | refine Zb ?_ | refine Zl ?_ | refine Zc ?_ | refine Ze ?_ | refine Zi ?_ | refine Zj ?_ | refine Zf ?_ | refine Zg ?_ | refine Zm ?_ | refine Zn ?_ | refine Zo ?_ | refine Zp ?_ | refine Zq ?_ | refine Zr ?_ | refine Zk ?_)
    exact re_1 rfl rfl (by exact drop_auto) hQ
end
end Go.Proofs.Ytjdppdoakbojcaa.Abs

/- The contract of the statement NlriBack. -/
namespace Go.Proofs.Ytjdppdoakbojcaa.Abs
open Go
set_option linter.unusedVariables false
def vals (A : List S60) (i : Nat) : List S60 := (A.take i).filter fun x => nlCk x == 0
theorem vals_bad {A : List S60} {i : Nat} {x : S60} (hx : A[i]? = some x) (h : nlCk x ≠ 0) : vals A (i + 1) = vals A i := by
  unfold vals
  rw [List.take_add_one, hx, List.filter_append]
  simp [h]
theorem vals_ok {A : List S60} {i : Nat} {x : S60} (hx : A[i]? = some x) (h : nlCk x = 0) : vals A (i + 1) = vals A i ++ [x] := by
  unfold vals
  rw [List.take_add_one, hx, List.filter_append]
  simp [h]
theorem vals_len (A : List S60) (i : Nat) : (vals A i).length ≤ i := by
  have h1 := List.length_filter_le (fun x => nlCk x == 0) (A.take i)
  have h2 : (A.take i).length ≤ i := by rw [List.length_take]; omega
  unfold vals
  omega
theorem catB_len : ∀ V : List S60, (catB V).length ≤ 42 * V.length
  | [] => by simp [catB]
  | x :: V => by
    have h1 := catB_len V
    have h2 := nlV_len x
    have h3 : (catB (x :: V)).length = (nlV x).length + 2 + (catB V).length := by
      show (nlB x ++ catB V).length = _
      rw [List.length_append]
      rfl
    rw [h3, List.length_cons]
    omega
theorem catB_Y {V : List S60} (h : ∀ x ∈ V, x.wf ∧ NlOk x) : ∀ y ∈ catB V, isY y := by
  intro y hy
  obtain ⟨x, hx, hxy⟩ := List.mem_flatMap.1 hy
  exact nlB_z (h x hx).1 (h x hx).2 y hxy
theorem vals_wf {A : List S60} (hw : ∀ x ∈ A, x.wf) (i : Nat) : ∀ x ∈ vals A i, x.wf ∧ NlOk x := by
  intro x hx
  obtain ⟨h1, h2⟩ := List.mem_filter.1 hx
  exact ⟨hw x (List.mem_of_mem_take h1), nlOk_iff.1 (by simpa using h2)⟩
theorem pmAsc {a : Nat × AObj} {G K X : Hp} : ((a :: (G ++ K)) ++ X).Perm (a :: (G ++ (K ++ X))) := List.Perm.of_eq (by simp)
section
variable {B0 : Nat} {old : Nat → Option (List Value)} {n : Nat} {H : Hp} {Q : Value → Hp → Prop} {ad : Option Addr} {c : Nat} {A : List S60}
set_option maxRecDepth 10000
set_option maxHeartbeats 8000000
theorem nback12_ct (h1 : Arr (cx B0 old) H ad 21 en60 A) (hw : ∀ x ∈ A, x.wf) (hll : A.length ≤ 9223372036854775807) (hQ : ∀ H', Q (.bool true) H') :
    CallT (cx B0 old) (acall (cx B0 old) ansP (n + 13)) 12 [.slice ad A.length c] H Q := by
  refine call_in1 95 rfl Try.func12 rfl rfl ?_
  repeat (first | refine Z0 ?_ | (refine ZR ?_; first | refine x1 ?_ | refine x2 ?_ | refine x8 ?_ | refine Z1 ?_ | refine Z2 ?_ | refine x3 fun _ => ?_ | refine x4 fun _ => ?_ | refine x5 fun _ => ?_ | refine Z3 fun _ => ?_ | refine Z4 fun _ => ?_) | refine Za ?_ | refine Zb ?_ | refine Zl ?_ | refine Zc ?_ | refine Ze ?_ | refine Zi ?_ | refine Zj ?_ | refine Zf ?_ | refine Zg ?_ | refine Zm ?_ | refine Zn ?_ | refine Zo ?_ | refine Zp ?_ | refine Zq ?_ | refine Zr ?_ | refine Zk ?_)
  refine rt_step rfl rfl rfl (st_call rfl rfl rfl rfl (call_ext rfl ?_))
  repeat (first | refine Z0 ?_ | (refine ZR ?_; first | refine x1 ?_ | refine x2 ?_ | refine x8 ?_ | refine Z1 ?_ | refine Z2 ?_ | refine x3 fun _ => ?_ | refine x4 fun _ => ?_ | refine x5 fun _ => ?_ | refine Z3 fun _ => ?_ | refine Z4 fun _ => ?_) | refine Za ?_ | refine Zb ?_ | refine Zl ?_ | refine Zc ?_ | refine Ze ?_ | refine Zi ?_ | refine Zj ?_ | refine Zf ?_ | refine Zg ?_ | refine Zm ?_ | refine Zn ?_ | refine Zo ?_ | refine Zp ?_ | refine Zq ?_ | refine Zr ?_ | refine Zk ?_)
  refine ct_condT te_d rfl (fun hc => ?_) (fun hc => ?_)
  · repeat (first | refine Z0 ?_ | (refine ZR ?_; first | refine x1 ?_ | refine x2 ?_ | refine x8 ?_ | refine Z1 ?_ | refine Z2 ?_ | refine x3 fun _ => ?_ | refine x4 fun _ => ?_ | refine x5 fun _ => ?_ | refine Z3 fun _ => ?_ | refine Z4 fun _ => ?_) | refine Za ?_ | refine Zb ?_ | refine Zl ?_ | refine Zc ?_ | refine Ze ?_ | refine Zi ?_ | refine Zj ?_ | refine Zf ?_ | refine Zg ?_ | refine Zm ?_ | refine Zn ?_ | refine Zo ?_ | refine Zp ?_ | refine Zq ?_ | refine Zr ?_ | refine Zk ?_)
    exact re_1 rfl rfl (List.Sublist.refl _) (hQ _)
  have hl : A.length ≤ 20 := by omega
  repeat (first | refine Z0 ?_ | (refine ZR ?_; first | refine x1 ?_ | refine x2 ?_ | refine x8 ?_ | refine Z1 ?_ | refine Z2 ?_ | refine x3 fun _ => ?_ | refine x4 fun _ => ?_ | refine x5 fun _ => ?_ | refine Z3 fun _ => ?_ | refine Z4 fun _ => ?_) | refine Za ?_ | refine Zb ?_ | refine Zl ?_ | refine Zc ?_ | refine Ze ?_ | refine Zi ?_ | refine Zj ?_ | refine Zf ?_ | refine Zg ?_ | refine Zm ?_ | refine Zn ?_ | refine Zo ?_ | refine Zp ?_ | refine Zq ?_ | refine Zr ?_ | refine Zk ?_)
  refine loop_ind (ι := Nat × Value × Hp × Value × Hp) (0, .slice none 0 0, [], .slice none 0 0, []) (fun i => A.length - i.1) (fun i => i.1 ≤ A.length ∧ Own encY 1 (catB (vals A i.1)) i.2.1 i.2.2.1 ∧ Own en60 21 (vals A i.1) i.2.2.2.1 i.2.2.2.2)
    (fun i => [(5, .int .i64 (i.1 : Int)), (3, i.2.1), (4, i.2.2.2.1), (0, .slice ad A.length c)]) (fun i => i.2.2.1 ++ (i.2.2.2.2 ++ H)) ⟨Nat.zero_le _, Own.nil, Own.nil⟩ (by repeat (first | exact SubL.nil | refine SubL.cons rfl ?_)) (List.Sublist.refl _) ?_
  rintro ⟨i, va, Ga, vw, Gw⟩ ⟨hi, oa, ow⟩
  dsimp only at hi oa ow ⊢
  repeat (first | refine Z0 ?_ | (refine ZR ?_; first | refine x1 ?_ | refine x2 ?_ | refine x8 ?_ | refine Z1 ?_ | refine Z2 ?_ | refine x3 fun _ => ?_ | refine x4 fun _ => ?_ | refine x5 fun _ => ?_ | refine Z3 fun _ => ?_ | refine Z4 fun _ => ?_) | refine Za ?_ | refine Zb ?_ | refine Zl ?_ | refine Zc ?_ | refine Ze ?_ | refine Zi ?_ | refine Zj ?_ | refine Zf ?_ | refine Zg ?_ | refine Zm ?_ | refine Zn ?_ | refine Zo ?_ | refine Zp ?_ | refine Zq ?_ | refine Zr ?_ | refine Zk ?_)
  refine ct_condT te_d rfl (fun hg => ?_) (fun hg => ?_)
  rotate_left
  · have : i = A.length := by omega
    subst this
    have hv := vals_wf hw A.length
    have hread := nlRd_cat hv
    have hy := catB_Y hv
    have hlen := catB_len (vals A A.length)
    have hvl := vals_len A A.length
    generalize vals A A.length = V at *
    obtain ⟨a1, c1, e1, g1⟩ := ow.arrW (C := cx B0 old) en60_len
    subst e1
    repeat (first | refine Z0 ?_ | (refine ZR ?_; first | refine x1 ?_ | refine x2 ?_ | refine x8 ?_ | refine Z1 ?_ | refine Z2 ?_ | refine x3 fun _ => ?_ | refine x4 fun _ => ?_ | refine x5 fun _ => ?_ | refine Z3 fun _ => ?_ | refine Z4 fun _ => ?_) | refine Za ?_ | refine Zb ?_ | refine Zl ?_ | refine Zc ?_ | refine Ze ?_ | refine Zi ?_ | refine Zj ?_ | refine Zf ?_ | refine Zg ?_ | refine Zm ?_ | refine Zn ?_ | refine Zo ?_ | refine Zp ?_ | refine Zq ?_ | refine Zr ?_ | refine Zk ?_)
    refine rt_step rfl rfl rfl (st_call rfl rfl rfl rfl (read47_ct (oa.cutV (pre := []) encY_len).a hy (by omega) fun v G o => ?_))
    rw [hread] at o ⊢
    dsimp only at o ⊢
    obtain ⟨a2, c2, e2, g2⟩ := o.arrW (C := cx B0 old) en60_len
    subst e2
    repeat (first | refine Z0 ?_ | (refine ZR ?_; first | refine x1 ?_ | refine x2 ?_ | refine x8 ?_ | refine Z1 ?_ | refine Z2 ?_ | refine x3 fun _ => ?_ | refine x4 fun _ => ?_ | refine x5 fun _ => ?_ | refine Z3 fun _ => ?_ | refine Z4 fun _ => ?_) | refine Za ?_ | refine Zb ?_ | refine Zl ?_ | refine Zc ?_ | refine Ze ?_ | refine Zi ?_ | refine Zj ?_ | refine Zf ?_ | refine Zg ?_ | refine Zm ?_ | refine Zn ?_ | refine Zo ?_ | refine Zp ?_ | refine Zq ?_ | refine Zr ?_ | refine Zk ?_)
    refine rt_step rfl rfl rfl (st_call rfl rfl rfl rfl (same49_ct (((g2 [] _).arr en60_len).weak (by exact drop_auto)) (((g1 Ga H).arr en60_len).weak (by exact drop_auto)) (by omega) ?_))
    repeat (first | refine Z0 ?_ | (refine ZR ?_; first | refine x1 ?_ | refine x2 ?_ | refine x8 ?_ | refine Z1 ?_ | refine Z2 ?_ | refine x3 fun _ => ?_ | refine x4 fun _ => ?_ | refine x5 fun _ => ?_ | refine Z3 fun _ => ?_ | refine Z4 fun _ => ?_) | refine Za ?_ | refine Zb ?_ | refine Zl ?_ | refine Zc ?_ | refine Ze ?_ | refine Zi ?_ | refine Zj ?_ | refine Zf ?_ | refine Zg ?_ | refine Zm ?_ | refine Zn ?_ | refine Zo ?_ | refine Zp ?_ | refine Zq ?_ | refine Zr ?_ | refine Zk ?_)
    exact re_1 rfl rfl (List.Sublist.refl _) (hQ _)
  obtain ⟨x, hx⟩ : ∃ x, A[i]? = some x := ⟨_, List.getElem?_eq_getElem (by omega)⟩
  have hxw := hw x (List.mem_of_getElem? hx)
  obtain ⟨b1, o1, e1, k1, k2⟩ := h1.ldE hx
  subst e1
  have hL0 := k1 60 rfl (sz rfl)
  have hL1 := k2 3 1 0 (.int .i64 x.a0) rfl (by decide) rfl (sz rfl)
  clear k1 k2
  have hb1 : ∀ {H1 : Hp} {Θ : Value → Hp → Prop}, (nlCk x ≠ 0 → Θ (.tuple #[.slice none 0 0, .int .i64 (nlCk x)]) H1) → (nlCk x = 0 → ∀ v G, Own encY 1 (nlB x) v G → Θ (.tuple #[v, .int .i64 0]) (G ++ H1)) → CallT (cx B0 old) (acall (cx B0 old) ansP (n + 12)) 37 [.agg ⟨en60 x⟩] H1 Θ := fun a b => bytes37_ct x hxw a b
  have hc1 : ∀ {H1 : Hp} {Θ : Value → Hp → Prop}, Θ (.int .i64 (nlCk x)) H1 → CallT (cx B0 old) (acall (cx B0 old) ansP (n + 12)) 41 [.agg ⟨en60 x⟩] H1 Θ := fun h => check41_ct x h
  have vb := vals_bad hx
  have vo := vals_ok hx
  have hok := nlOk_iff (x := x)
  have hvl := vals_len A i
  have hcl := catB_len (vals A i)
  have hBl : (nlB x).length = (nlV x).length + 2 := rfl
  have hVl := nlV_len x
  have hg0 : (nlB x)[0]? = some x.a0 := rfl
  have hg1 : (nlB x)[1]? = some ((nlV x).length : Int) := rfl
  unfold en60 at hL0 hb1 hc1
  repeat (first | refine Z0 ?_ | (refine ZR ?_; first | refine x1 ?_ | refine x2 ?_ | refine x8 ?_ | refine Z1 ?_ | refine Z2 ?_ | refine x3 fun _ => ?_ | refine x4 fun _ => ?_ | refine x5 fun _ => ?_ | refine Z3 fun _ => ?_ | refine Z4 fun _ => ?_) | refine Za ?_ | refine Zb ?_ | refine Zl ?_ | refine Zc ?_ | refine Ze ?_ | refine Zi ?_ | refine Zj ?_ | refine Zf ?_ | refine Zg ?_ | refine Zm ?_ | refine Zn ?_ | refine Zo ?_ | refine Zp ?_ | refine Zq ?_ | refine Zr ?_ | refine Zk ?_)
  by_cases hr : nlCk x = 0
  rotate_left
  · refine rt_step rfl rfl rfl (st_call rfl rfl rfl rfl (hb1 (fun _ => ?_) (fun h => absurd h hr)))
    repeat (first | refine Z0 ?_ | (refine ZR ?_; first | refine x1 ?_ | refine x2 ?_ | refine x8 ?_ | refine Z1 ?_ | refine Z2 ?_ | refine x3 fun _ => ?_ | refine x4 fun _ => ?_ | refine x5 fun _ => ?_ | refine Z3 fun _ => ?_ | refine Z4 fun _ => ?_) | refine Za ?_ | refine Zb ?_ | refine Zl ?_ | refine Zc ?_ | refine Ze ?_ | refine Zi ?_ | refine Zj ?_ | refine Zf ?_ | refine Zg ?_ | refine Zm ?_ | refine Zn ?_ | refine Zo ?_ | refine Zp ?_ | refine Zq ?_ | refine Zr ?_ | refine Zk ?_)
    refine rt_step rfl rfl rfl (st_call rfl rfl rfl rfl (hc1 ?_))
    repeat (first | refine Z0 ?_ | (refine ZR ?_; first | refine x1 ?_ | refine x2 ?_ | refine x8 ?_ | refine Z1 ?_ | refine Z2 ?_ | refine x3 fun _ => ?_ | refine x4 fun _ => ?_ | refine x5 fun _ => ?_ | refine Z3 fun _ => ?_ | refine Z4 fun _ => ?_) | refine Za ?_ | refine Zb ?_ | refine Zl ?_ | refine Zc ?_ | refine Ze ?_ | refine Zi ?_ | refine Zj ?_ | refine Zf ?_ | refine Zg ?_ | refine Zm ?_ | refine Zn ?_ | refine Zo ?_ | refine Zp ?_ | refine Zq ?_ | refine Zr ?_ | refine Zk ?_)
    refine isRun ?_
    refine z1 (fun h => absurd rfl h) (fun _ => ?_)
    repeat (first | refine Z0 ?_ | (refine ZR ?_; first | refine x1 ?_ | refine x2 ?_ | refine x8 ?_ | refine Z1 ?_ | refine Z2 ?_ | refine x3 fun _ => ?_ | refine x4 fun _ => ?_ | refine x5 fun _ => ?_ | refine Z3 fun _ => ?_ | refine Z4 fun _ => ?_) | refine Za ?_ | refine Zb ?_ | refine Zl ?_ | refine Zc ?_ | refine Ze ?_ | refine Zi ?_ | refine Zj ?_ | refine Zf ?_ | refine Zg ?_ | refine Zm ?_ | refine Zn ?_ | refine Zo ?_ | refine Zp ?_ | refine Zq ?_ | refine Zr ?_ | refine Zk ?_)
    refine isRun ?_
    refine z1 (fun _ => ?_) (fun h => absurd h hr)
    repeat (first | refine Z0 ?_ | (refine ZR ?_; first | refine x1 ?_ | refine x2 ?_ | refine x8 ?_ | refine Z1 ?_ | refine Z2 ?_ | refine x3 fun _ => ?_ | refine x4 fun _ => ?_ | refine x5 fun _ => ?_ | refine Z3 fun _ => ?_ | refine Z4 fun _ => ?_) | refine Za ?_ | refine Zb ?_ | refine Zl ?_ | refine Zc ?_ | refine Ze ?_ | refine Zi ?_ | refine Zj ?_ | refine Zf ?_ | refine Zg ?_ | refine Zm ?_ | refine Zn ?_ | refine Zo ?_ | refine Zp ?_ | refine Zq ?_ | refine Zr ?_ | refine Zk ?_)
    refine ct_condT te_ne rfl (fun _ => ?_) (fun h => absurd h hr)
    repeat (first | refine Z0 ?_ | (refine ZR ?_; first | refine x1 ?_ | refine x2 ?_ | refine x8 ?_ | refine Z1 ?_ | refine Z2 ?_ | refine x3 fun _ => ?_ | refine x4 fun _ => ?_ | refine x5 fun _ => ?_ | refine Z3 fun _ => ?_ | refine Z4 fun _ => ?_) | refine Za ?_ | refine Zb ?_ | refine Zl ?_ | refine Zc ?_ | refine Ze ?_ | refine Zi ?_ | refine Zj ?_ | refine Zf ?_ | refine Zg ?_ | refine Zm ?_ | refine Zn ?_ | refine Zo ?_ | refine Zp ?_ | refine Zq ?_ | refine Zr ?_ | refine Zk ?_)
    exact ⟨(i + 1, va, Ga, vw, Gw), ⟨by dsimp only; omega, by dsimp only; rw [vb hr]; exact oa, by dsimp only; rw [vb hr]; exact ow⟩, by dsimp only; omega, by repeat (first | exact SubL.nil | refine SubL.cons rfl ?_), List.Sublist.refl _⟩
  · have hk := (hok.1 hr).kind
    rw [hr] at hc1
    refine rt_step rfl rfl rfl (st_call rfl rfl rfl rfl (hb1 (fun h => absurd hr h) (fun _ v3 G3 o3 => ?_)))
    obtain ⟨a3, c3, e3, g3⟩ := o3.arrW (C := cx B0 old) encY_len
    subst e3
    obtain ⟨b5, o5, e5, hL2⟩ := ((g3 [] (Ga ++ (Gw ++ H))).arr encY_len).ld1 5 hg0 rfl rfl (sz rfl)
    obtain ⟨b6, o6, e6, hL3⟩ := ((g3 [] (Ga ++ (Gw ++ H))).arr encY_len).ld1 5 hg1 rfl rfl (sz rfl)
    subst e5
    cases e6
    repeat (first | refine Z0 ?_ | (refine ZR ?_; first | refine x1 ?_ | refine x2 ?_ | refine x8 ?_ | refine Z1 ?_ | refine Z2 ?_ | refine x3 fun _ => ?_ | refine x4 fun _ => ?_ | refine x5 fun _ => ?_ | refine Z3 fun _ => ?_ | refine Z4 fun _ => ?_) | refine Za ?_ | refine Zb ?_ | refine Zl ?_ | refine Zc ?_ | refine Ze ?_ | refine Zi ?_ | refine Zj ?_ | refine Zf ?_ | refine Zg ?_ | refine Zm ?_ | refine Zn ?_ | refine Zo ?_ | refine Zp ?_ | refine Zq ?_ | refine Zr ?_ | refine Zk ?_)
    refine rt_step rfl rfl rfl (st_call rfl rfl rfl rfl (hc1 ?_))
    repeat (first | refine Z0 ?_ | (refine ZR ?_; first | refine x1 ?_ | refine x2 ?_ | refine x8 ?_ | refine Z1 ?_ | refine Z2 ?_ | refine x3 fun _ => ?_ | refine x4 fun _ => ?_ | refine x5 fun _ => ?_ | refine Z3 fun _ => ?_ | refine Z4 fun _ => ?_) | refine Za ?_ | refine Zb ?_ | refine Zl ?_ | refine Zc ?_ | refine Ze ?_ | refine Zi ?_ | refine Zj ?_ | refine Zf ?_ | refine Zg ?_ | refine Zm ?_ | refine Zn ?_ | refine Zo ?_ | refine Zp ?_ | refine Zq ?_ | refine Zr ?_ | refine Zk ?_)
    refine ct_draw (masks := [0, 1, 3, 7, 15, 31, 63, 127, 15, 15, 783, 1807, 3855, 8191, 16383, 32767, 65535, 131071, 262143, 524287, 65535, 1114111, 3211263, 8388607, 16777215]) (plan := [0, 1, 2, 3, 4, 5, 6, 7, 8, 9, 10, 11, 12, 13, 14, 15, 16, 17, 18, 19, 20, 21, 22, 23, 24]) (E := []) (by kernel_rfl) (by kernel_rfl) (by kernel_rfl) (by kernel_rfl) ?_
    repeat (first | refine Y0 ?_ | (refine YP ?_; first | refine y1 ?_ | refine y2 ?_ | refine Y1 ?_ | refine Y2 ?_))
    rw [i64_i (show -9223372036854775808 ≤ x.a0 ∧ x.a0 < 9223372036854775808 by omega), show (x.a0 != x.a0) = false by simp]
    repeat (first | refine Y0 ?_ | (refine YP ?_; first | refine y1 ?_ | refine y2 ?_ | refine Y1 ?_ | refine Y2 ?_))
    rw [i64_i (show -9223372036854775808 ≤ ((nlV x).length : Int) ∧ ((nlV x).length : Int) < 9223372036854775808 by omega), show ((nlB x).length : Int) - 2 = ((nlV x).length : Int) by omega, show (((nlV x).length : Int) != ((nlV x).length : Int)) = false by simp]
    repeat (first | refine Y0 ?_ | (refine YP ?_; first | refine y1 ?_ | refine y2 ?_ | refine Y1 ?_ | refine Y2 ?_))
    repeat (first | refine Z0 ?_ | (refine ZR ?_; first | refine x1 ?_ | refine x2 ?_ | refine x8 ?_ | refine Z1 ?_ | refine Z2 ?_ | refine x3 fun _ => ?_ | refine x4 fun _ => ?_ | refine x5 fun _ => ?_ | refine Z3 fun _ => ?_ | refine Z4 fun _ => ?_) | refine Za ?_ | refine Zb ?_ | refine Zl ?_ | refine Zc ?_ | refine Ze ?_ | refine Zi ?_ | refine Zj ?_ | refine Zf ?_ | refine Zg ?_ | refine Zm ?_ | refine Zn ?_ | refine Zo ?_ | refine Zp ?_ | refine Zq ?_ | refine Zr ?_ | refine Zk ?_)
    refine ct_draw (masks := [0, 0, 3, 0, 0, 0, 48, 112, 240, 511, 1023, 2047]) (plan := [0, 1, 3, 4, 5, 6, 7, 2, 8, 9, 10, 11]) (E := [8]) (by kernel_rfl) (by kernel_rfl) (by kernel_rfl) (by kernel_rfl) ?_
    repeat (first | refine Y0 ?_ | (refine YP ?_; first | refine y1 ?_ | refine y2 ?_ | refine Y1 ?_ | refine Y2 ?_))
    refine pl_S' (late_has 8 rfl (made_slice rfl rfl rfl (zr rfl) rfl rfl rfl rfl rfl rfl)) rfl rfl rfl rfl rfl rfl (st_appO (pre := G3) (M := nlB x) (c := c3) oa encY_len encY_one rfl rfl (ap rfl) (g3 [] _) (by show _ * (1 + 1) ≤ _; omega) fun v4 G4 o4 => ⟨by exact rec_auto, ?_⟩)
    repeat (first | refine Y0 ?_ | (refine YP ?_; first | refine y1 ?_ | refine y2 ?_ | refine Y1 ?_ | refine Y2 ?_))
    refine pl_S' (late_has 8 rfl (made_slice rfl rfl rfl (zr rfl) rfl rfl rfl rfl rfl rfl)) rfl rfl rfl rfl rfl rfl (st_buildSlice rfl (zr rfl) rfl rfl rfl rfl rfl rfl fun bs => ⟨by exact rec_auto, ?_⟩)
    refine PlanT.perm ?_ pmAsc
    refine pl_S' (late_no rfl) rfl rfl rfl rfl rfl rfl (st_appP (M := [x]) (c := 1) (pre := (bs, _) :: (G4 ++ G3)) ow en60_len en60_one rfl rfl (ap rfl) (arrW_one en60_len (List.Mem.head _)) (Nat.le_trans (Nat.mul_le_mul_right _ (show 2 * ((vals A i).length + [x].length) + 192 ≤ 4000 by simp only [List.length_singleton]; omega)) (by decide)) fun v5 G5 o5' => ⟨by exact rec_auto, ?_⟩)
    repeat (first | refine Y0 ?_ | (refine YP ?_; first | refine y1 ?_ | refine y2 ?_ | refine Y1 ?_ | refine Y2 ?_))
    repeat (first | refine Z0 ?_ | (refine ZR ?_; first | refine x1 ?_ | refine x2 ?_ | refine x8 ?_ | refine Z1 ?_ | refine Z2 ?_ | refine x3 fun _ => ?_ | refine x4 fun _ => ?_ | refine x5 fun _ => ?_ | refine Z3 fun _ => ?_ | refine Z4 fun _ => ?_) | refine Za ?_ | refine Zb ?_ | refine Zl ?_ | refine Zc ?_ | refine Ze ?_ | refine Zi ?_ | refine Zj ?_ | refine Zf ?_ | refine Zg ?_ | refine Zm ?_ | refine Zn ?_ | refine Zo ?_ | refine Zp ?_ | refine Zq ?_ | refine Zr ?_ | refine Zk ?_)
    exact ⟨(i + 1, v4, G4, v5, G5), ⟨by dsimp only; omega, by dsimp only; rw [vo hr]; unfold catB; rw [List.flatMap_append]; simpa [catB] using o4, by dsimp only; rw [vo hr]; exact o5'⟩, by dsimp only; omega, by repeat (first | exact SubL.nil | refine SubL.cons rfl ?_), by
      dsimp only
      rw [List.cons_append, List.append_assoc]
      exact List.Sublist.cons _ ((List.Sublist.refl _).append (List.sublist_append_right _ _))⟩
end
end Go.Proofs.Ytjdppdoakbojcaa.Abs
