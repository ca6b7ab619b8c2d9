/- The two writers side by side: their contracts over one heap. -/
import Derived.Test.YtcbifjbmbceipaaWr6
namespace Go.Proofs.Ytcbifjbmbceipaa.Abs
open Go
set_option linter.unusedVariables false
theorem CallT.permQ {C : Ctx} {hc : Abs.H Prop} {g : FuncId} {args : List Value} {H1 H : Hp} {Q : Value → Hp → Prop} (h : CallT C hc g args H1 fun v H' => ∃ H2 : Hp, H2.Perm H' ∧ Q v H2) (hs : H1.Perm H) : CallT C hc g args H Q := by
  unfold CallT at *
  exact fun s k h1 h2 => h s k (h1.perm hs) fun v H' s' ⟨H2, h3, h4⟩ h5 => h2 v H2 s' h4 (h5.perm h3)
def lawH (p q mb : Nat) (lim : Int) (bv : Value) (Hs : Hp) (ms : Mk) (c : Nat) (bv2 : Value) (Hs2 : Hp) (mv : Value) (Hm H : Hp) : Hp :=
  (q, .row [bv2, .int .i64 lim, mv] 3 false) :: (Hs2 ++ (Hm ++ ((p, .row [bv, .int .i64 lim, .map (some mb)] 3 false) :: (mb, .map (mkG .i64 unit0 ms) c) :: (Hs ++ H))))
theorem perm3 {A B D : Hp} : (A ++ (B ++ D)).Perm (B ++ (A ++ D)) := mid_perm
section
variable {B0 : Nat} {old : Nat → Option (List Value)} {n : Nat} {H Hs Hs2 Hm X : Hp} {Q : Value → Hp → Prop} {p q mb c : Nat} {bv bv2 mv : Value} {lim : Int} {B : List Int} {ms : Mk}
theorem lawW (rp : List Value) (m : AObj) (rq : List Value) : ((p, AObj.row rp 3 false) :: (mb, m) :: (Hs ++ (X ++ ((q, AObj.row rq 3 false) :: (Hs2 ++ (Hm ++ H)))))).Perm (X ++ ((q, AObj.row rq 3 false) :: (Hs2 ++ (Hm ++ ((p, AObj.row rp 3 false) :: (mb, m) :: (Hs ++ H)))))) := by
  have h := perm3 (A := (p, AObj.row rp 3 false) :: (mb, m) :: Hs) (B := X ++ (q, AObj.row rq 3 false) :: (Hs2 ++ Hm)) (D := H)
  simpa [List.append_assoc] using h
theorem lawR (rp : List Value) (m : AObj) (rq : List Value) : ((q, AObj.row rq 3 false) :: (Hs2 ++ (Hm ++ (X ++ ((p, AObj.row rp 3 false) :: (mb, m) :: (Hs ++ H)))))).Perm (X ++ ((q, AObj.row rq 3 false) :: (Hs2 ++ (Hm ++ ((p, AObj.row rp 3 false) :: (mb, m) :: (Hs ++ H)))))) := by
  have h := perm3 (A := (q, AObj.row rq 3 false) :: (Hs2 ++ Hm)) (B := X) (D := (p, AObj.row rp 3 false) :: (mb, m) :: (Hs ++ H))
  simpa [List.append_assoc] using h
set_option maxRecDepth 10000
theorem l_put (nn k : Nat) (hk : k < 6) (ho : Own encB 1 B bv Hs) (hB : B.length ≤ 65536) (h0 : 0 ≤ lim) (h1 : lim ≤ 65536) (hnn : nn < 18446744073709551616)
    (h : ∀ bv' Hs', Own encB 1 (putB B lim nn (szN k)) bv' Hs' → Q (.int .i64 (putE B lim nn (szN k))) (X ++ lawH p q mb lim bv' Hs' ms c bv2 Hs2 mv Hm H)) :
    CallT (cx B0 old) (acall (cx B0 old) ansP (n + 4)) 32 [.pointer (some ⟨p, 0, none⟩), .int .i64 k, .int .u64 nn] (X ++ lawH p q mb lim bv Hs ms c bv2 Hs2 mv Hm H) Q :=
  CallT.permQ (lput_ct nn k hk ho hB h0 h1 hnn fun bv' Hs' ho' => ⟨_, (lawW _ _ _).symm, h bv' Hs' ho'⟩) (lawW _ _ _)
theorem l_rput (nn zz : Nat) (hs : 1 ≤ zz ∧ zz ≤ 8) (ho : Own encB 1 B bv2 Hs2) (hB : B.length ≤ 65536) (h0 : 0 ≤ lim) (h1 : lim ≤ 65536) (hnn : nn < 18446744073709551616)
    (h : ∀ bv' Hs', Own encB 1 (putB B lim nn zz) bv' Hs' → Q (.int .i64 (putE B lim nn zz)) (X ++ lawH p q mb lim bv Hs ms c bv' Hs' mv Hm H)) :
    CallT (cx B0 old) (acall (cx B0 old) ansP (n + 1)) 33 [.pointer (some ⟨q, 0, none⟩), .int .u64 nn, .int .i64 zz] (X ++ lawH p q mb lim bv Hs ms c bv2 Hs2 mv Hm H) Q :=
  CallT.permQ (rput_ct nn zz hs ho hB h0 h1 hnn fun bv' Hs' ho' => ⟨_, (lawR _ _ _).symm, h bv' Hs' ho'⟩) (lawR _ _ _)
theorem l_bytes (ad1 : Option Addr) (c1 : Nat) (M : List Int) (ha : ArrW (cx B0 old) (X ++ H) ad1 1 encB M) (ho : Own encB 1 B bv Hs) (hB : B.length ≤ 65536) (h0 : 0 ≤ lim) (h1 : lim ≤ 65536) (hM : M.length ≤ 300)
    (h : ∀ bv' Hs', Own encB 1 (bytB B lim M) bv' Hs' → Q (.int .i64 (bytE B lim M)) (X ++ lawH p q mb lim bv' Hs' ms c bv2 Hs2 mv Hm H)) :
    CallT (cx B0 old) (acall (cx B0 old) ansP (n + 2)) 34 [.pointer (some ⟨p, 0, none⟩), .slice ad1 M.length c1] (X ++ lawH p q mb lim bv Hs ms c bv2 Hs2 mv Hm H) Q :=
  CallT.permQ (wbytes_ct ad1 c1 M (ha.weak (.append (.refl _) (((List.sublist_append_right _ _).trans (List.sublist_append_right _ _)).trans (List.sublist_cons_self _ _)))) ho hB h0 h1 hM fun bv' Hs' ho' => ⟨_, (lawW _ _ _).symm, h bv' Hs' ho'⟩) (lawW _ _ _)
theorem l_rbytes (ad1 : Option Addr) (c1 : Nat) (M : List Int) (ha : ArrW (cx B0 old) (X ++ H) ad1 1 encB M) (ho : Own encB 1 B bv2 Hs2) (hB : B.length ≤ 65536) (h0 : 0 ≤ lim) (h1 : lim ≤ 65536) (hM : M.length ≤ 300)
    (h : ∀ bv' Hs', Own encB 1 (bytB B lim M) bv' Hs' → Q (.int .i64 (bytE B lim M)) (X ++ lawH p q mb lim bv Hs ms c bv' Hs' mv Hm H)) :
    CallT (cx B0 old) (acall (cx B0 old) ansP (n + 1)) 35 [.pointer (some ⟨q, 0, none⟩), .slice ad1 M.length c1] (X ++ lawH p q mb lim bv Hs ms c bv2 Hs2 mv Hm H) Q :=
  CallT.permQ (rbyt_ct ad1 c1 M (ha.weak ((List.Sublist.append (.refl X) (((List.sublist_append_right _ _).trans (List.sublist_cons_self _ _)).trans (List.sublist_cons_self _ _))).trans (List.sublist_append_right _ _))) ho hB h0 h1 hM fun bv' Hs' ho' => ⟨_, (lawR _ _ _).symm, h bv' Hs' ho'⟩) (lawR _ _ _)
theorem l_mark (hw : WI B lim ms) (ho : Own encB 1 B bv Hs)
    (hbad : lim - B.length < 2 → ∀ bv' Hs', Own encB 1 B bv' Hs' → Q (.tuple #[.int .i64 0, .int .i64 7]) (X ++ lawH p q mb lim bv' Hs' ms c bv2 Hs2 mv Hm H))
    (hgood : ¬ lim - B.length < 2 → ∀ bv' Hs', Own encB 1 (B ++ beL 2 0) bv' Hs' → Q (.tuple #[.int .i64 B.length, .int .i64 0]) (X ++ lawH p q mb lim bv' Hs' (ms ++ [((B.length : Int), (), c)]) (c + 1) bv2 Hs2 mv Hm H)) :
    CallT (cx B0 old) (acall (cx B0 old) ansP (n + 3)) 36 [.pointer (some ⟨p, 0, none⟩)] (X ++ lawH p q mb lim bv Hs ms c bv2 Hs2 mv Hm H) Q :=
  CallT.permQ (mark_ct c hw ho (fun hb bv' Hs' ho' => ⟨_, (lawW _ _ _).symm, hbad hb bv' Hs' ho'⟩) (fun hg bv' Hs' ho' => ⟨_, (lawW _ _ _).symm, hgood hg bv' Hs' ho'⟩)) (lawW _ _ _)
theorem l_rmark {ms' : Mk} (hw : WI B lim ms) (ho : Own encB 1 B bv2 Hs2) (hm : Own encI 1 (keys ms) mv Hm) (hml : ms.length ≤ 60)
    (hbad : lim - B.length < 2 → ∀ bv' Hs', Own encB 1 B bv' Hs' → Q (.tuple #[.int .i64 0, .int .i64 7]) (X ++ lawH p q mb lim bv Hs ms' c bv' Hs' mv Hm H))
    (hgood : ¬ lim - B.length < 2 → ∀ bv' Hs' mv' Hm', Own encB 1 (B ++ beL 2 0) bv' Hs' → Own encI 1 (keys ms ++ [(B.length : Int)]) mv' Hm' → Q (.tuple #[.int .i64 B.length, .int .i64 0]) (X ++ lawH p q mb lim bv Hs ms' c bv' Hs' mv' Hm' H)) :
    CallT (cx B0 old) (acall (cx B0 old) ansP (n + 2)) 37 [.pointer (some ⟨q, 0, none⟩)] (X ++ lawH p q mb lim bv Hs ms' c bv2 Hs2 mv Hm H) Q :=
  CallT.permQ (rmark_ct (ad := none) hw ho hm hml (fun hb bv' Hs' ho' => ⟨_, (lawR _ _ _).symm, hbad hb bv' Hs' ho'⟩) (fun hg bv' Hs' mv' Hm' ho' hm' => ⟨_, (lawR _ _ _).symm, hgood hg bv' Hs' mv' Hm' ho' hm'⟩)) (lawR _ _ _)
theorem fG_mem {ms : Mk} {a : Int} {i : Nat} (h : fG ms a = some (i, ())) : a ∈ keys ms := by
  by_cases hm : a ∈ keys ms
  · exact hm
  · have : fG ms a = none := fG_none.2 fun q hq e => hm (e ▸ List.mem_map_of_mem hq)
    rw [this] at h; cases h
theorem l_patch (a : Int) (hw : WI B lim ms) (ho : Own encB 1 B bv Hs)
    (hbad : fG ms a = none → Q (.int .i64 16) (X ++ lawH p q mb lim bv Hs ms c bv2 Hs2 mv Hm H))
    (hgood : ∀ i, fG ms a = some (i, ()) → ∀ Hs', Own encB 1 (patB B a.toNat) bv Hs' → Q (.int .i64 0) (X ++ lawH p q mb lim bv Hs' (ms.eraseIdx i) c bv2 Hs2 mv Hm H)) :
    CallT (cx B0 old) (acall (cx B0 old) ansP (n + 2)) 38 [.pointer (some ⟨p, 0, none⟩), .int .i64 a] (X ++ lawH p q mb lim bv Hs ms c bv2 Hs2 mv Hm H) Q :=
  CallT.permQ (patch_ct c a hw ho (fun hb => ⟨_, (lawW _ _ _).symm, hbad hb⟩) (fun i hi Hs' ho' => ⟨_, (lawW _ _ _).symm, hgood i hi Hs' ho'⟩) fun i hi => fG_mem hi) (lawW _ _ _)
theorem l_rpatch {ms' : Mk} (a : Int) (hw : WI B lim ms) (ho : Own encB 1 B bv2 Hs2) (hm : Own encI 1 (keys ms) mv Hm) (hml : ms.length ≤ 60)
    (hbad : fG ms a = none → Q (.int .i64 16) (X ++ lawH p q mb lim bv Hs ms' c bv2 Hs2 mv Hm H))
    (hgood : ∀ i, fG ms a = some (i, ()) → ∀ Hs' mv' Hm', Own encB 1 (patB B a.toNat) bv2 Hs' → Own encI 1 (keys (ms.eraseIdx i)) mv' Hm' → Q (.int .i64 0) (X ++ lawH p q mb lim bv Hs ms' c bv2 Hs' mv' Hm' H)) :
    CallT (cx B0 old) (acall (cx B0 old) ansP (n + 1)) 39 [.pointer (some ⟨q, 0, none⟩), .int .i64 a] (X ++ lawH p q mb lim bv Hs ms' c bv2 Hs2 mv Hm H) Q :=
  CallT.permQ (rpatch_ct a hw ho hm hml (fun hb => ⟨_, (lawR _ _ _).symm, hbad hb⟩) (fun i hi _ Hs' mv' Hm' ho' hm' => ⟨_, (lawR _ _ _).symm, hgood i hi Hs' mv' Hm' ho' hm'⟩)) (lawR _ _ _)
theorem l_out {ad : Option Addr} {c0 : Nat} (ho : Own encB 1 B (.slice ad B.length c0) Hs) (hB : B.length ≤ 65536)
    (h : ∀ v Ho, Own encB 1 B v Ho → Q v (Ho ++ (X ++ lawH p q mb lim (.slice ad B.length c0) Hs ms c bv2 Hs2 mv Hm H))) :
    CallT (cx B0 old) (acall (cx B0 old) ansP (n + 2)) 40 [.pointer (some ⟨p, 0, none⟩)] (X ++ lawH p q mb lim (.slice ad B.length c0) Hs ms c bv2 Hs2 mv Hm H) Q := by
  obtain ⟨ad', c', e, hw⟩ := ho.arrW (C := cx B0 old) encB_len
  cases e
  exact CallT.permQ (out_ct (H := (mb, .map (mkG .i64 unit0 ms) c) :: (Hs ++ (X ++ ((q, .row [bv2, .int .i64 lim, mv] 3 false) :: (Hs2 ++ (Hm ++ H)))))) (hw [_] _) hB fun v Ho ho' => ⟨_, (List.Perm.append_left Ho (lawW _ _ _)).symm, h v Ho ho'⟩) (lawW _ _ _)
theorem l_len {ad : Option Addr} {c0 : Nat} (h : Q (.int .i64 B.length) (X ++ lawH p q mb lim (.slice ad B.length c0) Hs ms c bv2 Hs2 mv Hm H)) :
    CallT (cx B0 old) (acall (cx B0 old) ansP (n + 2)) 41 [.pointer (some ⟨p, 0, none⟩)] (X ++ lawH p q mb lim (.slice ad B.length c0) Hs ms c bv2 Hs2 mv Hm H) Q :=
  CallT.permQ (wlen_ct ⟨_, (lawW _ _ _).symm, h⟩) (lawW _ _ _)
end
end Go.Proofs.Ytcbifjbmbceipaa.Abs
