/- A run that answers with a bool, by the kernel, is a run that answers with a proposition. -/
import Derived.Test.YtpdhkonifbdckaaAbs18
namespace Go.Proofs.Ytpdhkonifbdckaa.Abs
open Go
set_option linter.unusedSectionVars false
variable [Tok]
set_option linter.unusedSimpArgs false

section
variable {C : Ctx}

theorem veqCell_eq {a b : Value} (h : veqCell a b = true) : a = b := by
  unfold veqCell at h
  have addr : ∀ {x y : Addr}, aeq x y = true → x = y := by
    intro x y h
    obtain ⟨b1, o1, s1⟩ := x
    obtain ⟨b2, o2, s2⟩ := y
    unfold aeq at h
    simp only [Bool.and_eq_true] at h
    obtain ⟨⟨h1, h2⟩, h3⟩ := h
    have e1 := Nat.eq_of_beq_eq_true h1
    have e2 := Nat.eq_of_beq_eq_true h2
    subst e1; subst e2
    cases s1 <;> cases s2 <;> first | rfl | cases h3
  split at h
  · simp_all
  · simp only [Bool.and_eq_true, decide_eq_true_eq, beq_iff_eq] at h; rw [h.1, h.2]
  · rename_i x y
    obtain ⟨⟨x⟩⟩ := x
    obtain ⟨⟨y⟩⟩ := y
    simp_all
  · rfl
  · rw [addr h]
  · simp only [Bool.and_eq_true] at h; rw [Nat.eq_of_beq_eq_true h.1, Nat.eq_of_beq_eq_true h.2]
  · simp only [Bool.and_eq_true] at h; rw [addr h.1.1, Nat.eq_of_beq_eq_true h.1.2, Nat.eq_of_beq_eq_true h.2]
  · rfl
  · rw [Nat.eq_of_beq_eq_true h]
  · rfl
  · rfl
  · cases h
theorem veqs_eq : ∀ {a b : List Value}, veqs a b = true → a = b
  | [], [], _ => rfl
  | a :: l, b :: m, h => by
    simp only [veqs, Bool.and_eq_true] at h
    rw [veqCell_eq h.1, veqs_eq h.2]
  | [], _ :: _, h => by cases h
  | _ :: _, [], h => by cases h
theorem veqIn_eq {a b : Value} (h : veqIn a b = true) : a = b := by
  unfold veqIn at h
  split at h
  · rename_i x y; rw [Array.ext' (veqs_eq h)]
  · exact veqCell_eq h
theorem veqIns_eq : ∀ {a b : List Value}, veqIns a b = true → a = b
  | [], [], _ => rfl
  | a :: l, b :: m, h => by
    simp only [veqIns, Bool.and_eq_true] at h
    rw [veqIn_eq h.1, veqIns_eq h.2]
  | [], _ :: _, h => by cases h
  | _ :: _, [], h => by cases h
theorem veq_eq {a b : Value} (h : veq a b = true) : a = b := by
  unfold veq at h
  split at h
  · rename_i x y; rw [Array.ext' (veqs_eq h)]
  · rename_i x y; rw [Array.ext' (veqIns_eq h)]
  · simp only [Bool.and_eq_true] at h
    rw [Nat.eq_of_beq_eq_true h.1.1, Array.ext' (veqs_eq h.1.2), Array.ext' (veqs_eq h.2)]
  · exact veqCell_eq h

def MorK (hb : H Bool) (hp : H Prop) : Prop := ∀ f args s (K : Value → St → Bool) (K' : Value → St → Prop), (∀ v s, K v s = true → K' v s) → hb f args s K = true → hp f args s K'

structure MorH (hb : HH Bool) (hp : HH Prop) : Prop where
  call : MorK hb.call hp.call
  code : ∀ (c : Code) (fr : Fr) (s : St) (k : AX → Fr → St → Bool) (k' : AX → Fr → St → Prop), (∀ e fr s, k e fr s = true → k' e fr s) → hb.code c fr s k = true → hp.code c fr s k'

theorem all_foldr {l : List Bool} (h : l.foldr (fun a b => a && b) true = true) : ∀ b ∈ l, b = true := by
  induction l with
  | nil => intro b hb; simp at hb
  | cons x l ih =>
    simp only [List.foldr_cons, Bool.and_eq_true] at h
    intro b hb
    rcases List.mem_cons.1 hb with rfl | hb
    · exact h.1
    · exact ih h.2 b hb


theorem mor_next {s : St} {it : Value} {K : Value → St → Bool} {K' : Value → St → Prop} (hk : ∀ v s, K v s = true → K' v s) (h : anext C ansB s it K = true) : anext C ansP s it K' := by
  unfold anext at h ⊢
  split at h
  case h_2 => cases h
  split at h
  · rename_i h1 h2
    try simp only [h1, h2]
    exact hk _ _ h
  · rename_i h1 h2
    try simp only [h1, h2]
    split at h
    · rename_i h3 h4
      try simp only [h3, h4]
      split at h
      · cases h
      · rename_i h5
        try simp only [h5]
        intro p hp
        obtain ⟨c, hc, rfl⟩ := List.mem_map.1 hp
        have := all_foldr h _ (List.mem_map.2 ⟨c, hc, rfl⟩)
        cases c <;> exact hk _ _ this
    · cases h
  · cases h

theorem mor_around {hb : HH Bool} {hp : HH Prop} (hm : MorH hb hp) {s : St} {l : Nat} {args : List Value} {K : Value → St → Bool} {K' : Value → St → Prop} (hk : ∀ v s, K v s = true → K' v s) (h : around C ansB hb s l args K = true) : around C ansP hp s l args K' := by
  unfold around at h ⊢
  split at h
  · rename_i h1 h2
    try simp only [h1, h2]
    split at h
    · rename_i h3
      try simp only [h3]
      refine hm.code _ _ _ _ _ (fun e fr s he => ?_) h
      split at he
      · rename_i h4
        try simp only [h4]
        refine hm.code _ _ _ _ _ (fun e fr s he => ?_) he
        split at he
        · rename_i h5
          try simp only [h5]
          cases e with
          | normal => exact hk _ _ he
          | ret => exact hk _ _ he
          | exit id => exact hk _ _ he
        · cases he
      · cases he
    · cases h
  · cases h

theorem mor_callOp {hb : HH Bool} {hp : HH Prop} (hm : MorH hb hp) {s : St} {c : Call} {ρ : Operand → Value} {K : Value → St → Bool} {K' : Value → St → Prop} (hk : ∀ v s, K v s = true → K' v s) (h : acallOp C ansB hb s c ρ K = true) : acallOp C ansP hp s c ρ K' := by
  unfold acallOp at h ⊢
  split at h
  · rename_i f hc
    try simp only [hc]
    split at h
    · rename_i h1
      try simp only [h1]
      split at h
      · rename_i h2
        try simp only [h2]
        exact hm.call _ _ _ _ _ hk h
      · rename_i h2
        try simp only [h2]
        split at h
        · rename_i h3
          try simp only [h3]
          exact hk _ _ h
        · cases h
    · rename_i h1
      try simp only [h1]
      exact mor_around hm hk h
    · cases h
  · rename_i r name hc
    try simp only [hc]
    split at h
    · rename_i h1
      try simp only [h1]
      split at h
      · rename_i h2
        try simp only [h2]
        exact hm.call _ _ _ _ _ hk h
      · cases h
    · cases h
  · cases h

theorem mor_E {hb : HH Bool} {hp : HH Prop} (hm : MorH hb hp) {s : St} {o : Op} {ρ : Operand → Value} {K : Value → St → Bool} {K' : Value → St → Prop} (hk : ∀ v s, K v s = true → K' v s) (h : aE C ansB hb s o ρ K = true) : aE C ansP hp s o ρ K' := by
  unfold aE at h ⊢
  split at h
  · rename_i h1
    try simp only [h1]
    exact hk _ _ h
  · rename_i h1
    try simp only [h1]
    split at h
    · exact mor_callOp hm hk h
    · exact mor_next hk h
    · cases h

theorem mor_op {hb : HH Bool} {hp : HH Prop} (hm : MorH hb hp) {s : St} {o : Op} {ρ : Operand → Value} {K : Value → St → Bool} {K' : Value → St → Prop} (hk : ∀ v s, K v s = true → K' v s) (h : aop C ansB hb s o ρ K = true) : aop C ansP hp s o ρ K' := by
  unfold aop at h ⊢
  split at h
  · cases h
  rename_i h0
  try simp only [h0]
  split at h
  · rename_i h1
    try simp only [h1]
    exact hk _ _ h
  · rename_i h1
    try simp only [h1]
    split at h
    · rename_i h2
      try simp only [h2]
      exact hk _ _ h
    · rename_i h2
      try simp only [h2]
      split at h
      · rename_i h3
        try simp only [h3]
        exact hk _ _ h
      · rename_i h3
        try simp only [h3]
        exact mor_E hm hk h

theorem mor_seq {hb : HH Bool} {hp : HH Prop} (hm : MorH hb hp) {ops : Array Oper} : ∀ {os : List Oper} {fr : Fr} {s : St} {k : Fr → St → Bool} {k' : Fr → St → Prop}, (∀ fr s, k fr s = true → k' fr s) →
    runSeq C ansB hb ops os fr s k = true → runSeq C ansP hp ops os fr s k'
  | [], fr, s, k, k', hk, h => hk _ _ h
  | o :: os, fr, s, k, k', hk, h => by
    unfold runSeq at h ⊢
    split at h
    · rename_i h1
      try simp only [h1]
      split at h
      · rename_i h2
        try simp only [h2]
        exact mor_op hm (fun v s hv => mor_seq hm hk hv) h
      · rename_i h2
        try simp only [h2]
        split at h
        · rename_i h3
          try simp only [h3]
          exact mor_seq hm hk h
        · cases h
    · rename_i h1
      try simp only [h1]
      exact mor_seq hm hk h
    · cases h

theorem mor_recheck {m : Nat} {s : St} {r : Bool} {r' : Prop} (hr : r = true → r') : ∀ {l : List Ent}, recheck C ansB m s l r = true → recheck C ansP m s l r'
  | [], h => hr h
  | e :: l, h => by
    unfold recheck at h ⊢
    split at h
    · rename_i h1
      try simp only [h1]
      exact mor_recheck hr h
    · rename_i h1
      try simp only [h1]
      split at h
      · rename_i v h2
        try simp only [h2]
        have h' : (match veq v e.v with | true => recheck C ansB m s l r | false => false) = true := h
        split at h'
        · rename_i h3
          exact ⟨veq_eq h3, mor_recheck hr h'⟩
        · cases h'
      · cases h

theorem mor_plan {hb : HH Bool} {hp : HH Prop} (hm : MorH hb hp) {ops : Array Oper} {E masks : List Nat} : ∀ {plan : List Nat} {reads : List Ent} {fr : Fr} {s : St} {k : Fr → St → Bool} {k' : Fr → St → Prop}, (∀ fr s, k fr s = true → k' fr s) →
    runPlan C ansB hb ops E masks plan reads fr s k = true → runPlan C ansP hp ops E masks plan reads fr s k'
  | [], reads, fr, s, k, k', hk, h => hk _ _ h
  | i :: rest, reads, fr, s, k, k', hk, h => by
    unfold runPlan at h ⊢
    split at h
    · rename_i h1 h2
      try simp only [h1, h2]
      split at h
      · cases h
      · rename_i h3
        try simp only [h3]
        exact mor_plan hm hk h
      · rename_i h3
        try simp only [h3]
        split at h
        · cases h
        · rename_i h4 h5
          try simp only [h4, h5]
          split at h
          · rename_i h6
            try simp only [h6]
            exact mor_plan hm hk h
          · rename_i h6
            try simp only [h6]
            split at h
            · rename_i h7
              try simp only [h7]
              exact mor_plan hm hk h
            · cases h
        · rename_i h4 h5
          try simp only [h4, h5]
          split at h
          · rename_i h6
            try simp only [h6]
            exact mor_op hm (fun v s hv => mor_recheck (fun h => mor_plan hm hk h) hv) h
          · cases h
    · cases h

theorem mor_draw {hb : HH Bool} {hp : HH Prop} (hm : MorH hb hp) {ops : Array Oper} {fr : Fr} {s : St} {k : Fr → St → Bool} {k' : Fr → St → Prop} (hk : ∀ fr s, k fr s = true → k' fr s)
    (h : runDraw C ansB hb ops fr s k = true) : runDraw C ansP hp ops fr s k' := by
  unfold runDraw at h ⊢
  split at h
  · rename_i h1
    try simp only [h1]
    exact mor_plan hm hk h
  · cases h

theorem mor_loop {bb : Fr → St → (AX → Fr → St → Bool) → Bool} {bp : Fr → St → (AX → Fr → St → Prop) → Prop} (hbody : ∀ fr s k k', (∀ e fr s, k e fr s = true → k' e fr s) → bb fr s k = true → bp fr s k') {k : AX → Fr → St → Bool} {k' : AX → Fr → St → Prop} (hk : ∀ e fr s, k e fr s = true → k' e fr s) :
    ∀ {n : Nat} {fr : Fr} {s : St}, loopN ansB bb n fr s k = true → loopN ansP bp n fr s k'
  | 0, fr, s, h => by cases h
  | n + 1, fr, s, h => by
    unfold loopN at h ⊢
    refine hbody _ _ _ _ (fun e fr s he => ?_) h
    cases e with
    | normal => exact mor_loop hbody hk he
    | exit id => exact hk _ _ _ he
    | ret => exact hk _ _ _ he

theorem mor_code {hb : HH Bool} {hp : HH Prop} (hm : MorH hb hp) (rd : Bool) : ∀ (c : Code) (fr : Fr) (s : St) (k : AX → Fr → St → Bool) (k' : AX → Fr → St → Prop), (∀ e fr s, k e fr s = true → k' e fr s) →
    acode C ansB hb rd c fr s k = true → acode C ansP hp rd c fr s k'
  | .skip, fr, s, k, k', hk, h => by simp only [acode] at h ⊢; exact hk _ _ _ h
  | .label _, fr, s, k, k', hk, h => by simp only [acode] at h ⊢; exact hk _ _ _ h
  | .region id ops false, fr, s, k, k', hk, h => by
    simp only [acode] at h ⊢
    split at h
    · cases h
    · rename_i h1
      try simp only [h1]
      exact mor_seq hm (fun fr s hh => hk _ _ _ hh) h
  | .region id ops true, fr, s, k, k', hk, h => by simp only [acode] at h ⊢; exact mor_draw hm (fun fr s hh => hk _ _ _ hh) h
  | .seq x y, fr, s, k, k', hk, h => by
    simp only [acode] at h ⊢
    refine mor_code hm rd x _ _ _ _ (fun e fr s he => ?_) h
    cases e with
    | normal => exact mor_code hm rd y _ _ _ _ hk he
    | exit id => exact hk _ _ _ he
    | ret => exact hk _ _ _ he
  | .cond c x y, fr, s, k, k', hk, h => by
    simp only [acode] at h ⊢
    split at h
    · rename_i h1 h2
      try simp only [h1, h2]
      exact mor_code hm rd x _ _ _ _ hk h
    · rename_i h1 h2
      try simp only [h1, h2]
      exact mor_code hm rd y _ _ _ _ hk h
    · cases h
  | .block id b, fr, s, k, k', hk, h => by
    simp only [acode] at h ⊢
    refine mor_code hm rd b _ _ _ _ (fun e fr s he => ?_) h
    cases e with
    | normal => exact hk _ _ _ he
    | exit i =>
      simp only at he ⊢
      split at he
      · rename_i h1
        try simp only [h1]
        exact hk _ _ _ he
      · rename_i h1
        try simp only [h1]
        exact hk _ _ _ he
    | ret => exact hk _ _ _ he
  | .loop b, fr, s, k, k', hk, h => by
    simp only [acode] at h ⊢
    exact ⟨100000, mor_loop (fun fr s k k' hk h => mor_code hm rd b fr s k k' hk h) hk h⟩
  | .exit id, fr, s, k, k', hk, h => by simp only [acode] at h ⊢; exact hk _ _ _ h
  | .scope b, fr, s, k, k', hk, h => by
    simp only [acode] at h ⊢
    cases rd with
    | true => cases h
    | false => exact mor_code hm _ b _ _ _ _ hk h
  | .ret, fr, s, k, k', hk, h => by simp only [acode] at h ⊢; exact hk _ _ _ h
  | .rangeFunc g ps x y, fr, s, k, k', hk, h => by
    simp only [acode] at h ⊢
    split at h
    · rename_i h1 h2
      try simp only [h1, h2]
      split at h
      · rename_i h3
        try simp only [h3]
        refine hm.call _ _ _ _ _ (fun v s he => ?_) h
        split at he
        · rename_i h4
          try simp only [h4]
          split at he
          · cases he
          · rename_i h5
            try simp only [h5]
            split at he
            · exact hk _ _ _ he
            · exact hk _ _ _ he
        · cases he
      · cases h
    · cases h
  | .goto _, _, _, _, _, _, h => by simp only [acode] at h; cases h
  | .refuse _, _, _, _, _, _, h => by simp only [acode] at h; cases h

theorem mor_leave {hb : HH Bool} {hp : HH Prop} (hm : MorH hb hp) : ∀ {ms : List Mark} {s : St} {k : St → Bool} {k' : St → Prop}, (∀ s, k s = true → k' s) → leave C ansB hb ms s k = true → leave C ansP hp ms s k'
  | [], s, k, k', hk, h => hk _ h
  | .blk m :: ms, s, k, k', hk, h => by
    unfold leave at h ⊢
    split at h
    · rename_i h1 h2
      try simp only [h1, h2]
      exact mor_leave hm hk h
    · cases h
  | .call f args :: ms, s, k, k', hk, h => by
    unfold leave at h ⊢
    split at h
    case h_2 => cases h
    rename_i fn h1 h2
    try simp only [h1, h2]
    split at h
    case h_2 => cases h
    rename_i c h3
    try simp only [h3]
    refine mor_code hm false c _ _ _ _ (fun e fr s he => ?_) h
    have fin : (match fr.marks, aresults C fr s fn.results.toList with | [], some _ => leave C ansB hb ms s k | _, _ => ansB.bad) = true → (match fr.marks, aresults C fr s fn.results.toList with | [], some _ => leave C ansP hp ms s k' | _, _ => ansP.bad) := by
      intro he
      split at he
      · rename_i h4 h5
        try simp only [h4, h5]
        exact mor_leave hm hk he
      · cases he
    cases e with
    | exit id => cases he
    | normal => exact fin he
    | ret => exact fin he
theorem mor_hand : ∀ (n : Nat), MorH (ahand C ansB n) (ahand C ansP n)
  | 0 => ⟨fun f args s K K' hk h => (by cases h), fun c fr s k k' hk h => (by cases h)⟩
  | n + 1 => by
    refine ⟨?_, fun c fr s k k' hk h => mor_code (mor_hand n) true c fr s k k' hk h⟩
    intro f args s K K' hk h
    simp only [ahand] at h ⊢
    split at h
    · rename_i v h1
      try simp only [h1]
      exact hk _ _ h
    · rename_i h1
      try simp only [h1]
      split at h
      · rename_i fn h2
        try simp only [h2]
        split at h
        · rename_i c h3
          try simp only [h3]
          refine mor_code (mor_hand n) false c _ _ _ _ (fun e fr s he => ?_) h
          cases e with
          | exit id => cases he
          | normal =>
            refine mor_leave (mor_hand n) (fun s hs => ?_) he
            split at hs
            · rename_i h4
              try simp only [h4]
              exact hk _ _ hs
            · cases hs
          | ret =>
            refine mor_leave (mor_hand n) (fun s hs => ?_) he
            split at hs
            · rename_i h4
              try simp only [h4]
              exact hk _ _ hs
            · cases hs
        · cases h
      · cases h
theorem mor_call (n : Nat) : MorK (acall C ansB n) (acall C ansP n) := (mor_hand n).call
end
end Go.Proofs.Ytpdhkonifbdckaa.Abs
