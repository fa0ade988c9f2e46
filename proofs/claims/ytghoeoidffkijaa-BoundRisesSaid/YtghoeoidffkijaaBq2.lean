/- Part 2 of the proof: RowBoundRises. -/
import Derived.Conc.MuLone
import Derived.Test.YtghoeoidffkijaaProg
import Derived.Test.YtghoeoidffkijaaBq1
set_option linter.unusedSimpArgs false
set_option linter.unusedVariables false
/- ABSTRACT VALUES AND STATES (17): regions: in the order of the text; in whatever order. -/
namespace Go.Fv

/-- One operation's deed in a region. -/
structure RA where
  i : Nat
  o : SO
  d : OD
  U : List (Nat × Option Blk)
  R : List Nat

inductive RunL (P : Program) (b0 : Nat) : List RA → (Nat → OD) → (Nat → Option Blk) → (Nat → OD) → (Nat → Option Blk) → Prop
  | nil (g h) : RunL P b0 [] g h g h
  | cons (a : RA) (az : List RA) (g h g' h') (hf : Fx P (b0 + 16 * a.i) a.o g h a.d a.U a.R) (hr : RunL P b0 az (updT g a.o.dst a.d) (updB h a.U) g' h') : RunL P b0 (a :: az) g h g' h'

def keysU (U : List (Nat × Option Blk)) : List Nat := U.map (·.1)

structure Indep (a c : RA) : Prop where
  t1 : ∀ t, a.o.dst = some t → t ∉ c.o.looks
  t2 : ∀ t, c.o.dst = some t → t ∉ a.o.looks
  t3 : ∀ t, a.o.dst = some t → c.o.dst ≠ some t
  h1 : ∀ n ∈ keysU a.U, n ∉ c.R
  h2 : ∀ n ∈ keysU a.U, n ∉ keysU c.U
  h3 : ∀ n ∈ keysU c.U, n ∉ a.R

theorem updB_other {h : Nat → Option Blk} : ∀ {U : List (Nat × Option Blk)} {n : Nat}, n ∉ keysU U → updB h U n = h n := by
  intro U
  induction U with
  | nil => intro n _; rfl
  | cons x U ih =>
    intro n hn
    obtain ⟨k, v⟩ := x
    simp only [keysU, List.map_cons, List.mem_cons, not_or] at hn
    simp only [updB]
    rw [if_neg (fun e => hn.1 e.symm)]
    exact ih hn.2

theorem updB_in {h h' : Nat → Option Blk} : ∀ {U : List (Nat × Option Blk)} {n : Nat}, n ∈ keysU U → updB h U n = updB h' U n := by
  intro U
  induction U with
  | nil => intro n hn; simp [keysU] at hn
  | cons x U ih =>
    intro n hn
    obtain ⟨k, v⟩ := x
    simp only [updB]
    by_cases e : k = n
    · simp [e]
    · simp only [keysU, List.map_cons, List.mem_cons] at hn
      rw [if_neg e, if_neg e]
      exact ih (hn.resolve_left fun x => e x.symm)

theorem updB_comm {h : Nat → Option Blk} {U V : List (Nat × Option Blk)} (hd : ∀ n ∈ keysU U, n ∉ keysU V) : updB (updB h U) V = updB (updB h V) U := by
  funext n
  by_cases h1 : n ∈ keysU U
  · rw [updB_other (hd n h1)]
    exact updB_in h1
  · rw [updB_other h1]
    by_cases h2 : n ∈ keysU V
    · exact updB_in h2
    · rw [updB_other h2, updB_other h2, updB_other h1]

theorem updT_comm {g : Nat → OD} {x y : Option Nat} {d e : OD} (hd : ∀ t, x = some t → y ≠ some t) : updT (updT g x d) y e = updT (updT g y e) x d := by
  cases x with
  | none => rfl
  | some s =>
    cases y with
    | none => rfl
    | some t =>
      funext n
      simp only [updT]
      by_cases h1 : n = t
      · subst h1
        rw [if_pos rfl, if_neg (fun h2 => hd s rfl (by rw [h2])), if_pos rfl]
      · rw [if_neg h1]
        by_cases h2 : n = s
        · rw [if_pos h2, if_pos h2]
        · rw [if_neg h2, if_neg h2, if_neg h1]

theorem updT_other {g : Nat → OD} {x : Option Nat} {d : OD} {t : Nat} (h : x ≠ some t) : updT g x d t = g t := by
  cases x with
  | none => rfl
  | some s =>
    simp only [updT]
    rw [if_neg]
    rintro rfl
    exact h rfl

section
variable {P : Program} {b0 : Nat} {g g' : Nat → OD} {h h' : Nat → Option Blk}

theorem RunL.swap {a c : RA} {az : List RA} (hr : RunL P b0 (a :: c :: az) g h g' h') (hi : Indep a c) : RunL P b0 (c :: a :: az) g h g' h' := by
  cases hr with
  | cons _ _ _ _ _ _ hf hr =>
    cases hr with
    | cons _ _ _ _ _ _ hf2 hr2 =>
      refine .cons c (a :: az) g h g' h' ?_ (.cons a az _ _ g' h' ?_ ?_)
      · refine hf2.congr (fun t ht => ?_) (fun n hn => updB_other fun hk => hi.h1 n hk hn)
        exact updT_other fun e => hi.t1 t e ht
      · refine hf.congr (fun t ht => ?_) (fun n hn => (updB_other fun hk => hi.h3 n hk hn).symm)
        exact (updT_other fun e => hi.t2 t e ht).symm
      · rw [updB_comm (U := c.U) (V := a.U) (fun n h1 h2 => hi.h2 n h2 h1), updT_comm (x := c.o.dst) (y := a.o.dst) (fun t h1 h2 => hi.t3 t h2 h1)]
        exact hr2

theorem RunL.front : ∀ {p : List RA} {x : RA} {s : List RA} {g : Nat → OD} {h : Nat → Option Blk}, RunL P b0 (p ++ x :: s) g h g' h' → (∀ y ∈ p, Indep y x) → RunL P b0 (x :: (p ++ s)) g h g' h' := by
  intro p
  induction p with
  | nil => intro x s g h hr _; exact hr
  | cons y p ih =>
    intro x s g h hr hi
    rw [List.cons_append] at hr
    cases hr with
    | cons _ _ _ _ _ _ hf hr =>
      have := ih hr (fun z hz => hi z (by simp [hz]))
      exact RunL.swap (.cons y _ g h g' h' hf this) (hi y (by simp))

end

-- which come ahead of which, whatever the order

inductive Reach (af : List (List Nat)) : Nat → Nat → Prop
  | one (j i) (h : i ∈ af.getD j []) : Reach af j i
  | more (j k i) (h : k ∈ af.getD j []) (hr : Reach af k i) : Reach af j i

/-- Of each operation, as bits, which must come ahead. -/
def masks : List (List Nat) → List Nat → List Nat
  | [], acc => acc
  | a :: az, acc => masks az (acc ++ [a.foldl (fun s e => s ||| 2 ^ e ||| acc.getD e 0) 0])

theorem fold_bits (acc : List Nat) (i : Nat) : ∀ (l : List Nat) (s : Nat), (l.foldl (fun s e => s ||| 2 ^ e ||| acc.getD e 0) s).testBit i = true →
    s.testBit i = true ∨ ∃ e ∈ l, e = i ∨ (acc.getD e 0).testBit i = true := by
  intro l
  induction l with
  | nil => intro s h; exact .inl h
  | cons e l ih =>
    intro s h
    simp only [List.foldl_cons] at h
    rcases ih _ h with h | ⟨x, hx, h⟩
    · simp only [Nat.testBit_or, Bool.or_eq_true, Nat.testBit_two_pow, decide_eq_true_eq] at h
      rcases h with (h | h) | h
      · exact .inl h
      · exact .inr ⟨e, by simp, .inl h⟩
      · exact .inr ⟨e, by simp, .inr h⟩
    · exact .inr ⟨x, by simp [hx], h⟩

theorem masks_ok (af : List (List Nat)) : ∀ (rest : List (List Nat)) (acc : List Nat), (∀ (k : Nat) (x : List Nat), rest[k]? = some x → af.getD (acc.length + k) [] = x) →
    (∀ j i, (acc.getD j 0).testBit i = true → Reach af j i) → ∀ j i, ((masks rest acc).getD j 0).testBit i = true → Reach af j i := by
  intro rest
  induction rest with
  | nil => intro acc _ hacc j i h; exact hacc j i h
  | cons x rest ih =>
    intro acc hr hacc j i h
    simp only [masks] at h
    refine ih (acc ++ [x.foldl (fun s e => s ||| 2 ^ e ||| acc.getD e 0) 0]) ?_ ?_ j i h
    · intro k y hk
      have := hr (k + 1) y (by simpa using hk)
      simp only [List.length_append, List.length_cons, List.length_nil]
      rw [show acc.length + (0 + 1) + k = acc.length + (k + 1) from by omega]
      exact this
    · intro q r hq
      have hx := hr 0 x (by simp)
      simp only [Nat.add_zero] at hx
      by_cases h1 : q < acc.length
      · refine hacc q r ?_
        simpa [List.getElem?_append_left h1] using hq
      · by_cases h2 : q = acc.length
        · subst h2
          have hq' : (x.foldl (fun s e => s ||| 2 ^ e ||| acc.getD e 0) 0).testBit r = true := by simpa using hq
          rcases fold_bits acc r x 0 hq' with h3 | ⟨e, he, h3 | h3⟩
          · simp at h3
          · subst h3; exact .one _ _ (by rw [hx]; exact he)
          · exact .more _ e _ (by rw [hx]; exact he) (hacc e r h3)
        · have : (acc ++ [x.foldl (fun s e => s ||| 2 ^ e ||| acc.getD e 0) 0]).getD q 0 = 0 := by
            simp [show ¬ q < acc.length + 1 from by omega]
          rw [this] at hq
          simp at hq

def disj (a b : List Nat) : Bool := a.all fun x => !b.contains x

def tmpApart (x y : SO) : Bool :=
  (match x.dst with | some t => !y.looks.contains t && y.dst != some t | none => true) && (match y.dst with | some t => !x.looks.contains t | none => true)

/-- May they come in any order that the text lets? acts: of each its number, the own blocks that it looks at, those that it turns. -/
def drOk (ops : List SO) (af : List (List Nat)) (acts : List (Nat × List Nat × List Nat)) : Bool :=
  let m := masks af []
  acts.all fun x => acts.all fun y => !decide (x.1 < y.1) || (m.getD y.1 0).testBit x.1 ||
    (disj x.2.2 y.2.1 && disj x.2.2 y.2.2 && disj y.2.2 x.2.1 && tmpApart (ops.getD x.1 default) (ops.getD y.1 default))

theorem disj_ok {a b : List Nat} (h : disj a b = true) : ∀ n ∈ a, n ∉ b := by
  intro n hn hb
  have := List.all_eq_true.1 h n hn
  simp [hb] at this

theorem drOk_indep {ops : List SO} {af : List (List Nat)} {acts : List (Nat × List Nat × List Nat)} (h : drOk ops af acts = true) {a c : RA} (ha : (a.i, a.R, keysU a.U) ∈ acts) (hc : (c.i, c.R, keysU c.U) ∈ acts)
    (hlt : a.i < c.i) (hoa : ops.getD a.i default = a.o) (hoc : ops.getD c.i default = c.o) : Reach af c.i a.i ∨ Indep a c := by
  have h1 := List.all_eq_true.1 (List.all_eq_true.1 h _ ha) _ hc
  simp only [hlt, decide_true, Bool.not_true, Bool.false_or, Bool.or_eq_true, Bool.and_eq_true, hoa, hoc] at h1
  rcases h1 with h1 | h1
  · refine .inl (masks_ok af af [] (fun k x hk => by simp [hk]) (fun j i hj => by simp at hj) _ _ h1)
  · obtain ⟨⟨⟨e1, e2⟩, e3⟩, e4⟩ := h1
    refine .inr ⟨?_, ?_, ?_, disj_ok e1, disj_ok e2, disj_ok e3⟩
    · intro t ht hl
      simp [tmpApart, ht, hl] at e4
    · intro t ht hl
      simp [tmpApart, ht, hl] at e4
    · intro t ht hl
      simp [tmpApart, ht, hl] at e4

end Go.Fv
/- ABSTRACT VALUES AND STATES (18): what a region comes to, reckoned; in the order of the text, and in whatever order. -/
namespace Go.Fv

def Rel (C : Ctx) (S : St) (w : World) (tm : Array Value) : Prop := Cr C S.get S.blk (· < S.nx) w tm

/-- A guard's slot: is the operation done? -/
def gdW (x : OD) (b : Bool) (A B : Prop) : Prop := (∃ y, x = some (.bool y) ∧ (y = b → A) ∧ (y ≠ b → B)) ∨ (x = some (.tup []) ∧ B)

/-- A call, from a state: whatever it comes to. -/
def callW (C : Ctx) (fv : OD) (az : Option (List DV)) (S : St) (k : DV → St → Prop) : Prop :=
  ∃ (f : DV) (xs : List DV), fv = some f ∧ az = some xs ∧ ∀ (w : World) (F : Nat → Prop) (ρ : Nat → Place), HOk w F ρ (· < S.nx) S.blk →
    ∀ (fval : Value) (vs : Array Value), RepV w F ρ (· < S.nx) f fval → xs.length = vs.size → (∀ (i : Nat) (a : DV) (v : Value), xs[i]? = some a → vs[i]? = some v → RepV w F ρ (· < S.nx) a v) →
    CallsV C.P (do let x ← Deferred.ofValue fval vs; invoke x.target x.args) w fun v w' => ∃ (d : DV) (S' : St) (F' : Nat → Prop) (ρ' : Nat → Place), S'.T = S.T ∧ k d S' ∧
        Tr w F ρ (· < S.nx) S.blk w' F' ρ' (· < S'.nx) S'.blk ∧ RepV w' F' ρ' (· < S'.nx) d v

def doW (C : Ctx) (S : St) (dst : Option Nat) (kc : DV → St → Prop) (ka : St → Prop) : SOp → Prop
  | .call f args => callW C (S.ev f) (allD (args.map S.ev)) S kc
  | op => match actA (tiOf C.P) S.nx S.ev S.blk op with
    | some eff => ka (St.set ⟨S.T, eff.U ++ S.H, S.nx + 16⟩ dst eff.d)
    | none => False

def opsW (C : Ctx) (K : St → Prop) : List SO → St → Prop
  | [], S => K S
  | ⟨dst, op, none⟩ :: os, S => doW C S dst (fun d S' => opsW C K os (S'.set dst (some d))) (fun S' => opsW C K os S') op
  | ⟨dst, op, some (t, b)⟩ :: os, S =>
    gdW (S.get t) b (doW C S dst (fun d S' => opsW C K os (S'.set dst (some d))) (fun S' => opsW C K os S') op) (opsW C K os (St.set ⟨S.T, S.H, S.nx + 16⟩ dst (some (.tup []))))

section
variable {C : Ctx} {a : Act} {w : World} {ops : Array Oper} {Q : Exit → Act → World → Prop}

theorem St.get_set (S : St) (dst : Option Nat) (d : OD) : (S.set dst d).get = updT S.get dst d := by
  cases dst with
  | none => rfl
  | some t =>
    funext n
    simp only [St.set, St.get, lkO, updT]
    by_cases h : t = n
    · simp [h]
    · rw [if_neg h, if_neg (fun e => h e.symm)]

theorem St.blk_set (S : St) (dst : Option Nat) (d : OD) : (S.set dst d).blk = S.blk := by cases dst <;> rfl
theorem St.nx_set (S : St) (dst : Option Nat) (d : OD) : (S.set dst d).nx = S.nx := by cases dst <;> rfl
theorem St.ev_eq (S : St) : S.ev = gEv S.get := by funext x; cases x <;> rfl

theorem Fx_step_seq {i : Nat} {o : Oper} {so : SO} {d : OD} {U : List (Nat × Option Blk)} {R : List Nat} {S : St} (hi : ops[i]? = some o) (hso : stOper ops o = some so) (hfx : Fx C.P S.nx so S.get S.blk d U R)
    (hc : Rel C S w a.tmps) (hlt : ∀ t, so.dst = some t → t < C.nt) {K : Act → World → Prop}
    (hK : ∀ a' w', a'.defers = a.defers → Rel C (St.set ⟨S.T, U ++ S.H, S.nx + 16⟩ so.dst d) w' a'.tmps → K a' w') : wpOp C.P ops Q i K a w := by
  refine Fx_step hi hso hfx hc (fun n h1 _ h2 => by omega) hlt fun a' w' hd hcr => hK a' w' hd ?_
  unfold Rel
  rw [St.get_set, St.blk_set, St.nx_set]
  have e1 : St.blk ⟨S.T, U ++ S.H, S.nx + 16⟩ = updB S.blk U := lkO_append U S.H
  rw [e1]
  refine Cr.names hcr fun n hn => ?_
  rcases hn with h1 | h1
  · show n < S.nx + 16; omega
  · show n < S.nx + 16; omega

theorem call_step {i : Nat} {o : Oper} {so : SO} {S : St} {f : O} {args : List O} {k : DV → St → Prop} (hi : ops[i]? = some o) (hso : stOper ops o = some so)
    (hg : so.gd = none ∨ ∃ t b, so.gd = some (t, b) ∧ S.get t = some (.bool b)) (hop : so.op = .call f args) (hcall : callW C (S.ev f) (allD (args.map S.ev)) S k)
    (hc : Rel C S w a.tmps) (hlt : ∀ t, so.dst = some t → t < C.nt) {K : Act → World → Prop}
    (hK : ∀ a' w' d S', a'.defers = a.defers → k d S' → S'.T = S.T → Rel C (S'.set so.dst (some d)) w' a'.tmps → K a' w') : wpOp C.P ops Q i K a w := by
  obtain ⟨hsz, F, ρ, T, ht⟩ := hc
  obtain ⟨hok, hdst, hop', hgd⟩ := stOper_inv hso
  have dput : ∀ v, (a.put o.dst v).defers = a.defers := by intro v; cases o.dst <;> rfl
  have hw : Region.wanted o (yielded ops a.tmps) = true := by
    rcases hg with h1 | ⟨t, b, h1, h2⟩
    · exact wanted_none hso h1
    · obtain ⟨v, h3, h4⟩ := ht t _ h2
      rw [h4.bool_inv] at h3
      rw [wanted_of hso h1 h3]; simp
  obtain ⟨fv, az, hf, has, hsem⟩ := hcall
  rw [St.ev_eq] at hf has
  unfold wpOp
  simp only [hi, hw, if_true]
  refine .inl ?_
  unfold Oper.wp
  rw [hdst] at hK hlt
  have hcv : ∃ (c : Call) (f' : Operand), o.op = .call c ∧ c.callee = .value f' ∧ f = stO f' ∧ args = c.args.toList.map stO := by
    rw [hop'] at hop
    cases hoo : o.op with
    | call c =>
      rw [hoo] at hop
      simp only [stOp] at hop
      unfold stCall at hop
      split at hop <;> first | (cases hop; done) | skip
      rename_i f' hcal
      cases hop
      exact ⟨c, f', rfl, hcal, rfl, rfl⟩
    | makeFunc fn x y => rw [hoo] at hop; cases fn <;> simp [stOp] at hop
    | makeMap t r => rw [hoo] at hop; cases r <;> simp [stOp] at hop
    | _ => rw [hoo] at hop; simp [stOp] at hop
  obtain ⟨c, f', hoo, hcal, rfl, rfl⟩ := hcv
  have mem : ∀ x, x ∈ o.op.operands → okO x = true := fun x hx => Array.all_eq_true_iff_forall_mem.1 hok x hx
  have okf : okO f' = true := mem f' (by rw [hoo]; simp [Op.operands, Call.operands, hcal])
  have hevs := evs_of ht
  have hrf := hevs f' okf fv hf
  obtain ⟨hl, hra⟩ := all_operands hevs (xs := c.args.toList) (fun x hx => mem x (by rw [hoo]; simp only [Op.operands, Call.operands]; rw [Array.mem_append]; exact .inr (Array.mem_toList_iff.1 hx))) has
  have hall := hsem w F ρ T.H (a.eval f') (c.args.map a.eval) hrf (by simpa using hl) (fun i x v hx hv => hra i x v hx (by simpa using hv))
  have hexec : (execOp a.eval o).run C.P w = (do let x ← Deferred.ofValue (a.eval f') (c.args.map a.eval); invoke x.target x.args : Sem Next).run C.P w := by
    simp only [execOp, hoo, resolve, hcal]
  rw [hexec]
  have fin : ∀ (v : Value) (w' : World), (∃ (d : DV) (S' : St) (F' : Nat → Prop) (ρ' : Nat → Place), S'.T = S.T ∧ k d S' ∧ Tr w F ρ (· < S.nx) S.blk w' F' ρ' (· < S'.nx) S'.blk ∧ RepV w' F' ρ' (· < S'.nx) d v) → K (a.put o.dst v) w' := by
    rintro v w' ⟨d, S', F', ρ', hST, hk, hT, hv⟩
    refine hK _ _ d S' (dput _) hk hST ?_
    unfold Rel
    rw [St.get_set, St.blk_set, St.nx_set]
    have hgS : S'.get = S.get := by funext n; simp [St.get, hST]
    rw [hgS]
    exact Cr.step hsz T ht hT (fun y hy => by cases hy; exact hv) hlt
  rcases hall with ⟨gi, gargs, hrun, hcalls⟩ | ⟨v, w', hrun, hv⟩
  · rw [hrun, Oper.upon_enter]
    refine hcalls.mono ?_
    rintro e w' ⟨v, rfl, hv⟩
    exact fin v w' hv
  · rw [hrun]
    exact fin v w' hv

/-- A REGION IN THE ORDER OF THE TEXT. -/
theorem ops_sound {K : St → Prop} (hQ : ∀ S a' w', K S → Rel C S w' a'.tmps → a'.defers = a.defers → Q .normal a' w') : ∀ (os : List SO) (k : Nat) (S : St) (a' : Act) (w' : World),
    (∀ (j : Nat) (so : SO), os[j]? = some so → ∃ o, ops[k + j]? = some o ∧ stOper ops o = some so) → (∀ so ∈ os, ∀ t, so.dst = some t → t < C.nt) →
    opsW C K os S → Rel C S w' a'.tmps → a'.defers = a.defers → wpOps C.P ops Q (List.range' k os.length) a' w' := by
  intro os
  induction os with
  | nil =>
    intro k S a' w' _ _ h hr hd
    simp only [List.length_nil, List.range'_zero, wpOps]
    exact hQ S a' w' h hr hd
  | cons so os ih =>
    intro k S a' w' hops hlt h hr hd
    obtain ⟨o, ho, hso⟩ := hops 0 so (by simp)
    simp only [Nat.add_zero] at ho
    simp only [List.length_cons, List.range'_succ]
    rw [wpOps_cons]
    have ih' := fun S a' w' => ih (k + 1) S a' w' (fun j x hj => by rw [show k + 1 + j = k + (j + 1) from by omega]; exact hops (j + 1) x (by simpa using hj)) (fun x hx => hlt x (by simp [hx]))
    have hlt0 := hlt so (by simp)
    obtain ⟨dst, op, gd⟩ := so
    have doit : (gd = none ∨ ∃ t b, gd = some (t, b) ∧ S.get t = some (.bool b)) → doW C S dst (fun d S' => opsW C K os (S'.set dst (some d))) (fun S' => opsW C K os S') op →
        wpOp C.P ops Q k (wpOps C.P ops Q (List.range' (k + 1) os.length)) a' w' := by
      intro hg hA
      unfold doW at hA
      split at hA
      · exact call_step ho hso hg rfl hA hr hlt0 fun a2 w2 d S2 hd2 hk2 _ hr2 => ih' _ a2 w2 hk2 hr2 (hd2.trans hd)
      · split at hA
        · rename_i eff heff
          rw [St.ev_eq] at heff
          exact Fx_step_seq ho hso (.act eff hg heff) hr hlt0 fun a2 w2 hd2 hr2 => ih' _ a2 w2 hA hr2 (hd2.trans hd)
        · exact hA.elim
    cases gd with
    | none => exact doit (.inl rfl) h
    | some tb =>
      obtain ⟨t, b⟩ := tb
      rcases h with ⟨y, hy, h1, h2⟩ | ⟨hy, h2⟩
      · by_cases hyb : y = b
        · subst hyb
          exact doit (.inr ⟨t, y, rfl, hy⟩) (h1 rfl)
        · exact Fx_step_seq ho hso (.skip t b rfl (.inl ⟨y, hy, hyb⟩)) hr hlt0 fun a2 w2 hd2 hr2 => ih' _ a2 w2 (h2 hyb) hr2 (hd2.trans hd)
      · exact Fx_step_seq ho hso (.skip t b rfl (.inr hy)) hr hlt0 fun a2 w2 hd2 hr2 => ih' _ a2 w2 h2 hr2 (hd2.trans hd)

end
end Go.Fv
/- ABSTRACT VALUES AND STATES (19): a region whose order is open. -/
namespace Go.Fv

abbrev Acts := List (Nat × List Nat × List Nat)

def dDo (C : Ctx) (b0 : Nat) (S : St) (dst : Option Nat) (i : Nat) (acts : Acts) (k : Acts → St → Prop) : SOp → Prop
  | .call f args => ∃ (fv : DV) (az : List DV) (d : DV) (U : List (Nat × Option Blk)) (R : List Nat), S.ev f = some fv ∧ allD (args.map S.ev) = some az ∧ CallFx C.P fv az S.blk (b0 + 16 * i) d U R ∧
      k ((i, R, keysU U) :: acts) (St.set ⟨S.T, U ++ S.H, S.nx⟩ dst (some d))
  | op => match actA (tiOf C.P) (b0 + 16 * i) S.ev S.blk op with
    | some eff => k ((i, rdOf S.ev op, keysU eff.U) :: acts) (St.set ⟨S.T, eff.U ++ S.H, S.nx⟩ dst eff.d)
    | none => False

def dW (C : Ctx) (b0 : Nat) (fin : Acts → St → Prop) : List SO → Nat → Acts → St → Prop
  | [], _, acts, S => fin acts S
  | ⟨dst, op, none⟩ :: os, i, acts, S => dDo C b0 S dst i acts (fun acts S' => dW C b0 fin os (i + 1) acts S') op
  | ⟨dst, op, some (t, b)⟩ :: os, i, acts, S =>
    gdW (S.get t) b (dDo C b0 S dst i acts (fun acts S' => dW C b0 fin os (i + 1) acts S') op) (dW C b0 fin os (i + 1) ((i, [], []) :: acts) (S.set dst (some (.tup []))))

def afOk (af : List (List Nat)) : Bool := af.zipIdx.all fun x => x.1.all fun e => decide (e < x.2)

def drW (C : Ctx) (K : St → Prop) (ops : List SO) (af : List (List Nat)) (S : St) : Prop :=
  dW C S.nx (fun acts S' => (afOk af && drOk ops af acts) = true ∧ K ⟨S'.T, S'.H, S.nx + 16 * ops.length⟩) ops 0 [] S

section
variable {C : Ctx} {ops : Array Oper} {Q : Exit → Act → World → Prop}

theorem blk_app (T : List (Nat × Option DV)) (U H : List (Nat × Option Blk)) (nx : Nat) : St.blk ⟨T, U ++ H, nx⟩ = updB (lkO H) U := lkO_append U H

theorem dW_run {b0 : Nat} {fin : Acts → St → Prop} : ∀ (os : List SO) (i : Nat) (acts : Acts) (S : St), dW C b0 fin os i acts S →
    ∃ (ras : List RA) (S' : St), RunL C.P b0 ras S.get S.blk S'.get S'.blk ∧ ras.map (·.o) = os ∧ (∀ (k : Nat) (x : RA), ras[k]? = some x → x.i = i + k) ∧
      fin ((ras.map fun x => (x.i, x.R, keysU x.U)).reverse ++ acts) S' := by
  intro os
  induction os with
  | nil => intro i acts S h; exact ⟨[], S, .nil _ _, rfl, by simp, h⟩
  | cons so os ih =>
    intro i acts S h
    -- the rest, behind one that is done
    have next : ∀ (d : OD) (U : List (Nat × Option Blk)) (R : List Nat), Fx C.P (b0 + 16 * i) so S.get S.blk d U R → dW C b0 fin os (i + 1) ((i, R, keysU U) :: acts) (St.set ⟨S.T, U ++ S.H, S.nx⟩ so.dst d) →
        ∃ (ras : List RA) (S' : St), RunL C.P b0 ras S.get S.blk S'.get S'.blk ∧ ras.map (·.o) = so :: os ∧ (∀ (k : Nat) (x : RA), ras[k]? = some x → x.i = i + k) ∧
          fin ((ras.map fun x => (x.i, x.R, keysU x.U)).reverse ++ acts) S' := by
      intro d U R hfx hr
      obtain ⟨ras, S', h1, h2, h3, h4⟩ := ih (i + 1) _ _ hr
      refine ⟨⟨i, so, d, U, R⟩ :: ras, S', .cons ⟨i, so, d, U, R⟩ ras _ _ _ _ hfx ?_, by simp [h2], ?_, ?_⟩
      · rw [St.get_set, St.blk_set, blk_app] at h1
        exact h1
      · intro k x hk
        cases k with
        | zero => simp at hk; subst hk; rfl
        | succ k => rw [h3 k x (by simpa using hk)]; omega
      · simpa using h4
    obtain ⟨dst, op, gd⟩ := so
    have doit : (gd = none ∨ ∃ t b, gd = some (t, b) ∧ S.get t = some (.bool b)) → dDo C b0 S dst i acts (fun acts S' => dW C b0 fin os (i + 1) acts S') op →
        ∃ (ras : List RA) (S' : St), RunL C.P b0 ras S.get S.blk S'.get S'.blk ∧ ras.map (·.o) = ⟨dst, op, gd⟩ :: os ∧ (∀ (k : Nat) (x : RA), ras[k]? = some x → x.i = i + k) ∧
          fin ((ras.map fun x => (x.i, x.R, keysU x.U)).reverse ++ acts) S' := by
      intro hg hA
      unfold dDo at hA
      split at hA
      · rename_i f args
        obtain ⟨fv, az, d, U, R, hf, has, hcf, hr⟩ := hA
        rw [St.ev_eq] at hf has
        exact next (some d) U R (.call f args fv az d U R hg rfl hf has hcf) hr
      · split at hA
        · rename_i eff heff
          rw [St.ev_eq] at heff hA
          exact next eff.d eff.U _ (.act eff hg heff) hA
        · exact hA.elim
    cases gd with
    | none => exact doit (.inl rfl) h
    | some tb =>
      obtain ⟨t, b⟩ := tb
      rcases h with ⟨y, hy, h1, h2⟩ | ⟨hy, h2⟩
      · by_cases hyb : y = b
        · subst hyb
          exact doit (.inr ⟨t, y, rfl, hy⟩) (h1 rfl)
        · exact next (some (.tup [])) [] [] (.skip t b rfl (.inl ⟨y, hy, hyb⟩)) (h2 hyb)
      · exact next (some (.tup [])) [] [] (.skip t b rfl (.inr hy)) h2

theorem reach_listed {af : List (List Nat)} {listed : Array Bool} (hcl : ∀ j e, listed.getD j false = true → e ∈ af.getD j [] → listed.getD e false = true) : ∀ {j i : Nat}, Reach af j i →
    (∀ e ∈ af.getD j [], listed.getD e false = true) → listed.getD i false = true := by
  intro j i hr
  induction hr with
  | one j i h => intro hj; exact hj i h
  | more j k i h _ ih => intro hj; exact ih fun e he => hcl k e (hj k h) he

theorem after_mem {o : Oper} {e : Edge} (he : e ∈ o.after.toList) (hb : Region.binds .any e = true) : e.on ∈ afterOf o :=
  List.mem_map.2 ⟨e, List.mem_filter.2 ⟨he, hb⟩, rfl⟩

/-- IN WHATEVER ORDER. -/
theorem any_sound {af : List (List Nat)} {b0 : Nat} {gf : Nat → OD} {hf : Nat → Option Blk} {df : List Deferred} (haf : af = ops.toList.map afterOf) (hafo : ∀ (i e : Nat), e ∈ af.getD i [] → e < i)
    (hQ : ∀ (a : Act) (w : World), Cr C gf hf (· < b0 + 16 * ops.size) w a.tmps → a.defers = df → Q .normal a w) :
    ∀ (n : Nat) (rest : List RA) (listed : Array Bool) (g : Nat → OD) (h : Nat → Option Blk) (N : Nat → Prop) (a : Act) (w : World), rest.length = n → listed.size = ops.size →
    (∀ i, i < ops.size → (listed.getD i true = false ↔ ∃ x ∈ rest, x.i = i)) → (∀ x ∈ rest, x.i < ops.size) → rest.Pairwise (fun x y => x.i < y.i) →
    (∀ j e, listed.getD j false = true → e ∈ af.getD j [] → listed.getD e false = true) →
    (∀ x ∈ rest, ∃ o, ops[x.i]? = some o ∧ stOper ops o = some x.o) → (∀ x ∈ rest, ∀ t, x.o.dst = some t → t < C.nt) →
    (∀ x ∈ rest, ∀ y ∈ rest, x.i < y.i → Reach af y.i x.i ∨ Indep x y) → RunL C.P b0 rest g h gf hf → Cr C g h N w a.tmps →
    (∀ x ∈ rest, ∀ m, b0 + 16 * x.i ≤ m → m < b0 + 16 * x.i + 16 → ¬ N m) → (∀ m, N m → m < b0 + 16 * ops.size) → a.defers = df →
    wpAny C.P .any ops Q n listed a w := by
  intro n
  induction n with
  | zero =>
    intro rest listed g h N a w hn hsz hli hlt hpw hcl hst hdst hin hrun hcr hfr hNn hd
    have hr0 : rest = [] := List.length_eq_zero_iff.1 hn
    subst hr0
    cases hrun
    refine ⟨?_, hQ a w (hcr.names hNn) hd⟩
    unfold Region.ready
    rw [List.filter_eq_nil_iff]
    intro i hi
    have hi' := List.mem_range.1 hi
    have : listed.getD i true ≠ false := fun h0 => by obtain ⟨x, hx, _⟩ := (hli i hi').1 h0; simp at hx
    simp at this
    simp [this]
  | succ n ih =>
    intro rest listed g h N a w hn hsz hli hlt hpw hcl hst hdst hin hrun hcr hfr hNn hd
    have lsome : ∀ i, i < ops.size → listed.getD i true = listed.getD i false := by
      intro i hi
      have : i < listed.size := by omega
      simp [Array.getD, this]
    have nready : ∀ x ∈ rest, listed.getD x.i false = false := fun x hx => by rw [← lsome x.i (hlt x hx)]; exact (hli x.i (hlt x hx)).2 ⟨x, hx, rfl⟩
    refine ⟨fun h0 => ?_, fun i hi => ?_⟩
    · -- the first one is ready
      cases rest with
      | nil => simp at hn
      | cons x rest =>
        exfalso
        have hx : x.i ∈ Region.ready .any ops listed := by
          unfold Region.ready
          rw [List.mem_filter]
          refine ⟨List.mem_range.2 (hlt x (by simp)), ?_⟩
          obtain ⟨o, ho, _⟩ := hst x (by simp)
          have h1 := (hli x.i (hlt x (by simp))).2 ⟨x, by simp, rfl⟩
          rw [h1]
          simp only [ho, Option.map_some, Option.getD_some, Bool.not_false, Bool.true_and]
          rw [Array.all_eq_true_iff_forall_mem]
          intro e he
          cases hb : Region.binds .any e with
          | false => rfl
          | true =>
            have hmem : e.on ∈ af.getD x.i [] := by
              rw [haf]
              simp only [List.getD_eq_getElem?_getD, List.getElem?_map, Array.getElem?_toList, ho, Option.map_some, Option.getD_some]
              exact after_mem (Array.mem_toList_iff.2 he) hb
            have hlt2 := hafo _ _ hmem
            have hlt3 : e.on < ops.size := Nat.lt_trans hlt2 (hlt x (by simp))
            have : listed.getD e.on true ≠ false := fun h5 => by
              obtain ⟨y, hy, hye⟩ := (hli e.on hlt3).1 h5
              rcases List.mem_cons.1 hy with rfl | hy
              · omega
              · have := (List.pairwise_cons.1 hpw).1 y hy
                omega
            rw [lsome _ hlt3] at this
            simpa using this
        rw [h0] at hx
        simp at hx
    · unfold Region.ready at hi
      rw [List.mem_filter] at hi
      obtain ⟨hir, hi2⟩ := hi
      have hio := List.mem_range.1 hir
      simp only [Bool.and_eq_true, Bool.not_eq_true'] at hi2
      obtain ⟨x, hx, hxi⟩ := (hli i hio).1 hi2.1
      subst hxi
      obtain ⟨p, s, rfl⟩ := List.append_of_mem hx
      obtain ⟨o, ho, hso⟩ := hst x hx
      have hafx : ∀ e ∈ af.getD x.i [], listed.getD e false = true := by
        intro e he
        rw [haf] at he
        simp only [List.getD_eq_getElem?_getD, List.getElem?_map, Array.getElem?_toList, ho, Option.map_some, Option.getD_some, afterOf, List.mem_map, List.mem_filter] at he
        obtain ⟨ed, ⟨h1, h2⟩, rfl⟩ := he
        have h3 := hi2.2
        simp only [ho, Option.map_some, Option.getD_some] at h3
        have := Array.all_eq_true_iff_forall_mem.1 h3 ed (Array.mem_toList_iff.1 h1)
        simpa [h2] using this
      have hpw' := List.pairwise_append.1 hpw
      have hpx : ∀ y ∈ p, y.i < x.i := fun y hy => hpw'.2.2 y hy x (by simp)
      have hxs : ∀ y ∈ s, x.i < y.i := fun y hy => (List.pairwise_cons.1 hpw'.2.1).1 y hy
      have hind : ∀ y ∈ p, Indep y x := by
        intro y hy
        rcases hin y (by simp [hy]) x (by simp) (hpx y hy) with h1 | h1
        · exfalso
          have h2 := reach_listed hcl h1 hafx
          rw [nready y (by simp [hy])] at h2
          cases h2
        · exact h1
      have hrun' := RunL.front hrun hind
      cases hrun' with
      | cons _ _ _ _ _ _ hfx hrun2 =>
        have hsub : ∀ y ∈ p ++ s, y ∈ p ++ x :: s := by
          intro y hy
          rcases List.mem_append.1 hy with hy | hy
          · simp [hy]
          · simp [hy]
        have hne : ∀ y ∈ p ++ s, y.i ≠ x.i := by
          intro y hy
          rcases List.mem_append.1 hy with hy | hy
          · have := hpx y hy; omega
          · have := hxs y hy; omega
        have hxl : x.i < listed.size := by omega
        refine Fx_step ho hso hfx hcr (hfr x hx) (hdst x hx) fun a' w' hd' hcr' => ?_
        have getset : ∀ (j : Nat) (b : Bool), (listed.setIfInBounds x.i true).getD j b = if j = x.i then true else listed.getD j b := by
          intro j b
          by_cases hj : j = x.i
          · subst hj; simp [Array.getD, hxl]
          · rw [if_neg hj]
            by_cases hjl : j < listed.size
            · simp only [Array.getD, Array.size_setIfInBounds, hjl, dite_true]
              exact Array.getElem_setIfInBounds_ne hjl (fun e => hj e.symm)
            · simp [Array.getD, hjl]
        refine ih (p ++ s) (listed.setIfInBounds x.i true) _ _ _ a' w' ?_ (by simpa using hsz) ?_ (fun y hy => hlt y (hsub y hy)) ?_ ?_ (fun y hy => hst y (hsub y hy)) (fun y hy => hdst y (hsub y hy))
          (fun y hy z hz => hin y (hsub y hy) z (hsub z hz)) hrun2 hcr' ?_ ?_ (hd'.trans hd)
        · simp only [List.length_append, List.length_cons] at hn ⊢; omega
        · intro j hj
          rw [getset]
          by_cases hjx : j = x.i
          · rw [if_pos hjx]
            constructor
            · intro h5; cases h5
            · rintro ⟨y, hy, rfl⟩; exact absurd hjx (hne y hy)
          · rw [if_neg hjx, hli j hj]
            constructor
            · rintro ⟨y, hy, rfl⟩
              rcases List.mem_append.1 hy with hy | hy
              · exact ⟨y, by simp [hy], rfl⟩
              · rcases List.mem_cons.1 hy with rfl | hy
                · exact absurd rfl hjx
                · exact ⟨y, by simp [hy], rfl⟩
            · rintro ⟨y, hy, rfl⟩; exact ⟨y, hsub y hy, rfl⟩
        · rw [List.pairwise_append]
          exact ⟨hpw'.1, (List.pairwise_cons.1 hpw'.2.1).2, fun y hy z hz => hpw'.2.2 y hy z (by simp [hz])⟩
        · intro j e hj he
          rw [getset] at hj ⊢
          by_cases hee : e = x.i
          · rw [if_pos hee]
          · rw [if_neg hee]
            by_cases hjx : j = x.i
            · subst hjx; exact hafx e he
            · rw [if_neg hjx] at hj; exact hcl j e hj he
        · intro y hy m h1 h2 h3
          rcases h3 with h3 | h3
          · exact hfr y (hsub y hy) m h1 h2 h3
          · have := hne y hy
            rcases Nat.lt_or_ge y.i x.i with h4 | h4
            · omega
            · omega
        · intro m hm
          rcases hm with hm | hm
          · exact hNn m hm
          · omega

end
end Go.Fv
/- ABSTRACT VALUES AND STATES (20): whole codes. -/
namespace Go.Fv

/-- Whatever is as S tells is as S' tells. -/
def Sub (C : Ctx) (S S' : St) : Prop := ∀ (w : World) (tm : Array Value), Rel C S w tm → Rel C S' w tm

theorem Sub.refl (C : Ctx) (S : St) : Sub C S S := fun _ _ h => h
theorem Sub.trans {C : Ctx} {S S' S'' : St} (h : Sub C S S') (k : Sub C S' S'') : Sub C S S'' := fun w tm x => k w tm (h w tm x)

def condW (x : OD) (A B : Prop) : Prop := ∃ y, x = some (.bool y) ∧ (y = true → A) ∧ (y = false → B)

/-- A loop's round, by an invariant that a number counts down. -/
def LoopW (C : Ctx) (B : (St → Prop) → St → Prop) (S : St) : Prop :=
  ∃ I : St → Nat → Prop, (∃ S0 n, Sub C S S0 ∧ I S0 n) ∧ ∀ S n, I S n → B (fun S' => ∃ S'' m, Sub C S' S'' ∧ m < n ∧ I S'' m) S

/-- From a state, the code c comes: to its end as N tells, to an exit as X tells, to a return as Q tells. -/
def W (C : Ctx) (Q : St → Prop) : SC → (St → Prop) → (Nat → St → Prop) → St → Prop
  | .skip, N, _, S => N S
  | .rg ops, N, _, S => opsW C N ops S
  | .dr ops af, N, _, S => drW C N ops af S
  | .seq a b, N, X, S => W C Q a (fun S => W C Q b N X S) X S
  | .cond c a b, N, X, S => condW (S.ev c) (W C Q a N X S) (W C Q b N X S)
  | .block id a, N, X, S => W C Q a N (fun j S => if j = id then N S else X j S) S
  | .loop a, _, X, S => LoopW C (fun N' S => W C Q a N' X S) S
  | .exit id, _, X, S => X id S
  | .ret, _, _, S => Q S
  | .bad, _, _, _ => False
  | .sub a, N, X, S => ∃ S', Sub C S S' ∧ W C Q a N X S'

/-- Without the places at which the state is told otherwise. -/
def erase : SC → SC
  | .seq a b => .seq (erase a) (erase b)
  | .cond c a b => .cond c (erase a) (erase b)
  | .block id a => .block id (erase a)
  | .loop a => .loop (erase a)
  | .sub a => erase a
  | c => c

def dstB (n : Nat) (ops : List SO) : Bool := ops.all fun o => match o.dst with | some t => decide (t < n) | none => true

def dstOk (n : Nat) : SC → Bool
  | .rg ops => dstB n ops
  | .dr ops _ => dstB n ops
  | .seq a b | .cond _ a b => dstOk n a && dstOk n b
  | .block _ a | .loop a | .sub a => dstOk n a
  | _ => true

theorem dstB_ok {n : Nat} {ops : List SO} (h : dstB n ops = true) : ∀ so ∈ ops, ∀ t, so.dst = some t → t < n := by
  intro so hs t ht
  have := List.all_eq_true.1 h so hs
  rw [ht] at this
  simpa using this

theorem mapM_at {α β : Type} {f : α → Option β} : ∀ {xs : List α} {ys : List β}, xs.mapM f = some ys → ys.length = xs.length ∧ ∀ (j : Nat) (y : β), ys[j]? = some y → ∃ x, xs[j]? = some x ∧ f x = some y := by
  intro xs
  induction xs with
  | nil => intro ys h; simp at h; subst h; simp
  | cons x xs ih =>
    intro ys h
    simp only [List.mapM_cons, Option.bind_eq_bind, Option.pure_def] at h
    cases hx : f x with
    | none => rw [hx] at h; simp at h
    | some y =>
      cases hr : xs.mapM f with
      | none => rw [hx, hr] at h; simp at h
      | some r =>
        rw [hx, hr] at h
        simp at h
        subst h
        obtain ⟨h1, h2⟩ := ih hr
        refine ⟨by simp [h1], fun j z hz => ?_⟩
        cases j with
        | zero => simp at hz; subst hz; exact ⟨x, by simp, hx⟩
        | succ j => simpa using h2 j z (by simpa using hz)

section
variable {C : Ctx} {ops : Array Oper} {Qm : Exit → Act → World → Prop} {a : Act} {w : World} {S : St}

theorem draw_sound {K : St → Prop} {l : List SO} {id : Nat} (hP : C.P.follows .mixedOrders = true) (hm : ops.toList.mapM (stOper ops) = some l) (hd : dstB C.nt l = true)
    (h : drW C K l (ops.toList.map afterOf) S) (hr : Rel C S w a.tmps) (hQ : ∀ S' a' w', K S' → Rel C S' w' a'.tmps → a'.defers = a.defers → Qm .normal a' w') :
    (Code.region id ops true).wp C.P Qm a w := by
  refine wp_region_any hP ?_
  obtain ⟨hlen, hat⟩ := mapM_at hm
  obtain ⟨ras, S', hrun, hos, hidx, hfin⟩ := dW_run l 0 [] S h
  simp only [List.append_nil, Bool.and_eq_true] at hfin
  obtain ⟨⟨haf, hdr⟩, hK⟩ := hfin
  have hsz : l.length = ops.size := by simpa using hlen
  have hrl : ras.length = l.length := by rw [← hos]; simp
  have hoi : ∀ (k : Nat) (x : RA), ras[k]? = some x → l[k]? = some x.o := fun k x hk => by rw [← hos]; simp [hk]
  have hmem : ∀ x ∈ ras, ∃ k : Nat, ras[k]? = some x ∧ x.i = k ∧ k < ops.size := fun x hx => by
    obtain ⟨k, hk, hkx⟩ := List.mem_iff_getElem.1 hx
    have h1 : ras[k]? = some x := by rw [List.getElem?_eq_getElem hk, hkx]
    exact ⟨k, h1, by simpa using hidx k x h1, by omega⟩
  have hlo : ∀ x ∈ ras, ∀ (k : Nat), ras[k]? = some x → x.i = k := fun x _ k hk => by simpa using hidx k x hk
  refine any_sound (C := C) (af := ops.toList.map afterOf) (b0 := S.nx) (gf := S'.get) (hf := S'.blk) (df := a.defers) rfl ?_ ?_ ops.size ras (Array.replicate ops.size false) S.get S.blk (· < S.nx) a _
    (by omega) (by simp) ?_ ?_ ?_ ?_ ?_ ?_ ?_ hrun ?_ ?_ ?_ rfl
  · intro i e he
    unfold afOk at haf
    rw [List.all_eq_true] at haf
    by_cases hi : i < (ops.toList.map afterOf).length
    · rw [List.getD_eq_getElem?_getD, List.getElem?_eq_getElem hi, Option.getD_some] at he
      have h1 := haf ((ops.toList.map afterOf)[i], i) (by
        rw [List.mem_iff_getElem]
        exact ⟨i, by simpa using hi, by simp⟩)
      have h2 := List.all_eq_true.1 h1 e he
      simpa using h2
    · rw [List.getD_eq_getElem?_getD, List.getElem?_eq_none (by omega)] at he
      simp at he
  · intro a' w' hc hd'
    refine hQ _ a' w' hK ?_ hd'
    unfold Rel
    rw [hsz]
    exact hc
  · intro i hi
    have : i < (Array.replicate ops.size false).size := by simpa using hi
    simp only [Array.getD, this, dite_true]
    simp only [Array.getInternal_eq_getElem, Array.getElem_replicate, true_iff]
    have hi2 : i < ras.length := by omega
    exact ⟨ras[i], List.getElem_mem hi2, by simpa using hidx i ras[i] (by simp [hi2])⟩
  · intro x hx
    obtain ⟨k, h1, h2, h3⟩ := hmem x hx
    omega
  · rw [List.pairwise_iff_getElem]
    intro i j hi hj hij
    have h1 := hidx i ras[i] (by simp [hi])
    have h2 := hidx j ras[j] (by simp [hj])
    omega
  · intro j e hj
    by_cases hjs : j < ops.size
    · simp [Array.getD, hjs] at hj
    · simp [Array.getD, hjs] at hj
  · intro x hx
    obtain ⟨k, h1, h2, h3⟩ := hmem x hx
    obtain ⟨o, ho1, ho2⟩ := hat k x.o (hoi k x h1)
    exact ⟨o, by rw [h2]; simpa using ho1, ho2⟩
  · intro x hx
    obtain ⟨k, h1, h2, h3⟩ := hmem x hx
    exact dstB_ok hd x.o (List.mem_iff_getElem?.2 ⟨k, hoi k x h1⟩)
  · intro x hx y hy hxy
    obtain ⟨k, h1, h2, h3⟩ := hmem x hx
    obtain ⟨k', h1', h2', h3'⟩ := hmem y hy
    refine drOk_indep hdr ?_ ?_ hxy ?_ ?_
    · simp only [List.mem_reverse, List.mem_map]; exact ⟨x, hx, rfl⟩
    · simp only [List.mem_reverse, List.mem_map]; exact ⟨y, hy, rfl⟩
    · rw [h2, List.getD_eq_getElem?_getD, hoi k x h1]; rfl
    · rw [h2', List.getD_eq_getElem?_getD, hoi k' y h1']; rfl
  · obtain ⟨hs, F, ρ, T, ht⟩ := hr
    exact ⟨hs, F, ρ, T.trans (Tr.draw T.H), fun t d hd => let ⟨v, g1, g2⟩ := ht t d hd; ⟨v, g1, (Tr.draw T.H).rep T.H g2⟩⟩
  · intro x hx m h1 h2 h3
    have : S.nx ≤ m := by omega
    omega
  · intro m hm'
    have : m < S.nx := hm'
    omega

theorem region_sound {K : St → Prop} {l : List SO} {id : Nat} (hm : ops.toList.mapM (stOper ops) = some l) (hd : dstB C.nt l = true)
    (h : opsW C K l S) (hr : Rel C S w a.tmps) (hQ : ∀ S' a' w', K S' → Rel C S' w' a'.tmps → a'.defers = a.defers → Qm .normal a' w') :
    (Code.region id ops false).wp C.P Qm a w := by
  refine wp_region ?_
  obtain ⟨hlen, hat⟩ := mapM_at hm
  have hsz : l.length = ops.size := by simpa using hlen
  rw [List.range_eq_range', ← hsz]
  refine ops_sound (a := a) hQ l 0 S a w (fun j so hj => ?_) (dstB_ok hd) h hr rfl
  obtain ⟨o, ho1, ho2⟩ := hat j so hj
  exact ⟨o, by simpa using ho1, ho2⟩

theorem least_ex {p : Nat → Prop} (h : ∃ n, p n) : ∃ n, p n ∧ ∀ m, p m → n ≤ m := by
  obtain ⟨n, hn⟩ := h
  induction n using Nat.strongRecOn with
  | _ n ih =>
    by_cases hm : ∃ m, p m ∧ m < n
    · obtain ⟨m, h1, h2⟩ := hm
      exact ih m h2 h1
    · exact ⟨n, hn, fun m h1 => Nat.not_lt.1 fun h2 => hm ⟨m, h1, h2⟩⟩

open Classical in
noncomputable def leastOf (p : Nat → Prop) : Nat := if h : ∃ n, p n then Classical.choose (least_ex h) else 0

theorem leastOf_spec {p : Nat → Prop} (h : ∃ n, p n) : p (leastOf p) ∧ ∀ m, p m → leastOf p ≤ m := by
  unfold leastOf
  rw [dif_pos h]
  exact Classical.choose_spec (least_ex h)

/-- A loop's invariant, of the machine's states. -/
def LoopI (C : Ctx) (I : St → Nat → Prop) (df : List Deferred) (a : Act) (w : World) (n : Nat) : Prop := ∃ S, I S n ∧ Rel C S w a.tmps ∧ a.defers = df

theorem strip_skip {c : Code} (h : strip c = .skip) : c = .skip := by
  cases c <;> simp only [strip] at h <;> first | rfl | (cases h; done) | (split at h <;> first | (cases h; done) | (split at h <;> cases h)) | skip
theorem strip_rg {c : Code} {l : List SO} (h : strip c = .rg l) : ∃ id ops, c = .region id ops false ∧ ops.toList.mapM (stOper ops) = some l := by
  cases c with
  | region id ops draw =>
    simp only [strip] at h
    split at h
    · rename_i l' hl
      cases draw with
      | true => simp at h
      | false => simp at h; subst h; exact ⟨id, ops, rfl, hl⟩
    · cases h
  | cond => simp only [strip] at h; split at h <;> cases h
  | _ => simp only [strip] at h <;> cases h
theorem strip_dr {c : Code} {l : List SO} {af : List (List Nat)} (h : strip c = .dr l af) : ∃ id ops, c = .region id ops true ∧ ops.toList.mapM (stOper ops) = some l ∧ af = ops.toList.map afterOf := by
  cases c with
  | region id ops draw =>
    simp only [strip] at h
    split at h
    · rename_i l' hl
      cases draw with
      | true => simp at h; obtain ⟨rfl, rfl⟩ := h; exact ⟨id, ops, rfl, hl, rfl⟩
      | false => simp at h
    · cases h
  | cond => simp only [strip] at h; split at h <;> cases h
  | _ => simp only [strip] at h <;> cases h
theorem strip_seq {c : Code} {x y : SC} (h : strip c = .seq x y) : ∃ a b, c = .seq a b ∧ strip a = x ∧ strip b = y := by
  cases c with
  | region id ops draw => simp only [strip] at h; split at h <;> first | (cases h; done) | (split at h <;> cases h)
  | cond => simp only [strip] at h; split at h <;> cases h
  | seq a b => simp only [strip] at h; cases h; exact ⟨a, b, rfl, rfl, rfl⟩
  | _ => simp only [strip] at h <;> cases h
theorem strip_cond {c : Code} {v : O} {x y : SC} (h : strip c = .cond v x y) : ∃ o a b, c = .cond o a b ∧ okO o = true ∧ v = stO o ∧ strip a = x ∧ strip b = y := by
  cases c with
  | region id ops draw => simp only [strip] at h; split at h <;> first | (cases h; done) | (split at h <;> cases h)
  | cond o a b =>
    simp only [strip] at h
    split at h
    · rename_i hok; cases h; exact ⟨o, a, b, rfl, hok, rfl, rfl, rfl⟩
    · cases h
  | _ => simp only [strip] at h <;> cases h
theorem strip_block {c : Code} {id : Nat} {x : SC} (h : strip c = .block id x) : ∃ a, c = .block id a ∧ strip a = x := by
  cases c with
  | region id ops draw => simp only [strip] at h; split at h <;> first | (cases h; done) | (split at h <;> cases h)
  | cond => simp only [strip] at h; split at h <;> cases h
  | block id a => simp only [strip] at h; cases h; exact ⟨a, rfl, rfl⟩
  | _ => simp only [strip] at h <;> cases h
theorem strip_loop {c : Code} {x : SC} (h : strip c = .loop x) : ∃ a, c = .loop a ∧ strip a = x := by
  cases c with
  | region id ops draw => simp only [strip] at h; split at h <;> first | (cases h; done) | (split at h <;> cases h)
  | cond => simp only [strip] at h; split at h <;> cases h
  | loop a => simp only [strip] at h; cases h; exact ⟨a, rfl, rfl⟩
  | _ => simp only [strip] at h <;> cases h
theorem strip_exit {c : Code} {id : Nat} (h : strip c = .exit id) : c = .exit id := by
  cases c with
  | region id ops draw => simp only [strip] at h; split at h <;> first | (cases h; done) | (split at h <;> cases h)
  | cond => simp only [strip] at h; split at h <;> cases h
  | exit id => simp only [strip] at h; cases h; rfl
  | _ => simp only [strip] at h <;> cases h
theorem strip_ret {c : Code} (h : strip c = .ret) : c = .ret := by
  cases c with
  | region id ops draw => simp only [strip] at h; split at h <;> first | (cases h; done) | (split at h <;> cases h)
  | cond => simp only [strip] at h; split at h <;> cases h
  | ret => rfl
  | _ => simp only [strip] at h <;> cases h

theorem W_sound {Q : St → Prop} {df : List Deferred} (hP : C.P.follows .mixedOrders = true) : ∀ (sc : SC) (c : Code) (N : St → Prop) (X : Nat → St → Prop) (S : St) (a : Act) (w : World) (Qm : Exit → Act → World → Prop),
    strip c = erase sc → dstOk C.nt sc = true → W C Q sc N X S → Rel C S w a.tmps → a.defers = df →
    (∀ S a w, N S → Rel C S w a.tmps → a.defers = df → Qm .normal a w) → (∀ j S a w, X j S → Rel C S w a.tmps → a.defers = df → Qm (.exit j) a w) →
    (∀ S a w, Q S → Rel C S w a.tmps → a.defers = df → Qm .ret a w) → c.wp C.P Qm a w := by
  intro sc
  induction sc with
  | skip =>
    intro c N X S a w Qm hc _ h hr hd hN _ _
    obtain rfl := strip_skip hc
    exact wp_skip (hN S a w h hr hd)
  | rg l =>
    intro c N X S a w Qm hc hdo h hr hd hN _ _
    obtain ⟨id, ops, rfl, hl⟩ := strip_rg hc
    exact region_sound hl hdo h hr fun S' a' w' h1 h2 h3 => hN S' a' w' h1 h2 (h3.trans hd)
  | dr l af =>
    intro c N X S a w Qm hc hdo h hr hd hN _ _
    obtain ⟨id, ops, rfl, hl, rfl⟩ := strip_dr hc
    exact draw_sound hP hl hdo h hr fun S' a' w' h1 h2 h3 => hN S' a' w' h1 h2 (h3.trans hd)
  | seq x y ihx ihy =>
    intro c N X S a w Qm hc hdo h hr hd hN hX hQ
    obtain ⟨cx, cy, rfl, hx, hy⟩ := strip_seq hc
    simp only [dstOk, Bool.and_eq_true] at hdo
    exact wp_seq (ihx cx _ X S a w _ hx hdo.1 h hr hd (fun S a w h1 h2 h3 => ihy cy N X S a w Qm hy hdo.2 h1 h2 h3 hN hX hQ) hX hQ)
  | cond c0 x y ihx ihy =>
    intro c N X S a w Qm hc hdo h hr hd hN hX hQ
    obtain ⟨co, cx, cy, rfl, hok, rfl, hx, hy⟩ := strip_cond hc
    simp only [dstOk, Bool.and_eq_true] at hdo
    obtain ⟨t, hv, h1, h2⟩ := h
    obtain ⟨hsz, F, ρ, T, ht⟩ := id hr
    rw [St.ev_eq] at hv
    have hb := evs_of ht co hok _ hv
    refine wp_cond_split hb.bool_inv ?_ ?_
    · intro e; exact ihx cx N X S a w Qm hx hdo.1 (h1 e) hr hd hN hX hQ
    · intro e; exact ihy cy N X S a w Qm hy hdo.2 (h2 e) hr hd hN hX hQ
  | block id x ih =>
    intro c N X S a w Qm hc hdo h hr hd hN hX hQ
    obtain ⟨cx, rfl, hx⟩ := strip_block hc
    simp only [dstOk] at hdo
    refine wp_block (ih cx N _ S a w _ hx hdo h hr hd hN ?_ hQ)
    intro j S a w h1 h2 h3
    simp only [Exit.inBlock]
    split at h1
    · rename_i e; rw [if_pos e]; exact hN S a w h1 h2 h3
    · rename_i e; rw [if_neg e]; exact hX j S a w h1 h2 h3
  | loop x ih =>
    intro c N X S a w Qm hc hdo h hr hd hN hX hQ
    obtain ⟨cx, rfl, hx⟩ := strip_loop hc
    simp only [dstOk] at hdo
    obtain ⟨I, ⟨S0, n0, hsub, hI0⟩, hround⟩ := h
    refine wp_loop (fun a w => ∃ n, LoopI C I df a w n) (fun a w => leastOf (LoopI C I df a w)) ⟨n0, S0, hI0, hsub w a.tmps hr, hd⟩ ?_
    intro a w hI
    obtain ⟨⟨S, hI, hr, hd⟩, hleast⟩ := leastOf_spec hI
    refine ih cx (fun S' => ∃ S'' m, Sub C S' S'' ∧ m < leastOf (LoopI C I df a w) ∧ I S'' m) X S a w _ hx hdo (hround S _ hI) hr hd ?_ hX hQ
    rintro S' a' w' ⟨S'', m, h1, h2, h3⟩ h4 h5
    have hm : LoopI C I df a' w' m := ⟨S'', h3, h1 w' a'.tmps h4, h5⟩
    refine ⟨⟨m, hm⟩, ?_⟩
    have := (leastOf_spec ⟨m, hm⟩).2 m hm
    show leastOf (LoopI C I df a' w') < leastOf (LoopI C I df a w)
    omega
  | exit id =>
    intro c N X S a w Qm hc _ h hr hd _ hX _
    obtain rfl := strip_exit hc
    exact wp_exit (hX id S a w h hr hd)
  | ret =>
    intro c N X S a w Qm hc _ h hr hd _ _ hQ
    obtain rfl := strip_ret hc
    exact wp_ret (hQ S a w h hr hd)
  | bad => intro c N X S a w Qm _ _ h; exact h.elim
  | sub x ih =>
    intro c N X S a w Qm hc hdo h hr hd hN hX hQ
    obtain ⟨S', h1, h2⟩ := h
    exact ih c N X S' a w Qm hc hdo h2 (h1 w a.tmps hr) hd hN hX hQ
end
end Go.Fv
/- ABSTRACT VALUES AND STATES (21): other names. -/
namespace Go.Fv

mutual
/-- With other names. -/
def ren (σ : Nat → Option Nat) : DV → Option DV
  | .int k n => some (.int k n)
  | .bool b => some (.bool b)
  | .nilp => some .nilp
  | .nilsl => some .nilsl
  | .nilmp => some .nilmp
  | .nilfn => some .nilfn
  | .agg cs => (renL σ cs).map .agg
  | .tup cs => (renL σ cs).map .tup
  | .ptr b r c => (σ b).map fun b => .ptr b r c
  | .fp cs => (renL σ cs).map .fp
  | .sl k b i n => (σ b).map fun b => .sl k b i n
  | .fz k rows => (renR σ rows).map (.fz k)
  | .mp b => (σ b).map .mp
  | .fn f a c => (renL σ a).bind fun a' => (renL σ c).map fun c' => .fn f a' c'
  | .any => some .any
def renL (σ : Nat → Option Nat) : List DV → Option (List DV)
  | [] => some []
  | d :: ds => (ren σ d).bind fun d' => (renL σ ds).map fun ds' => d' :: ds'
def renR (σ : Nat → Option Nat) : List (List DV) → Option (List (List DV))
  | [] => some []
  | d :: ds => (renL σ d).bind fun d' => (renR σ ds).map fun ds' => d' :: ds'
end

def renM (σ : Nat → Option Nat) : List (DV × DV) → Option (List (DV × DV))
  | [] => some []
  | (x, y) :: r => (ren σ x).bind fun x' => (ren σ y).bind fun y' => (renM σ r).map fun r' => (x', y') :: r'

def renB (σ : Nat → Option Nat) : Blk → Option Blk
  | .rows k rs => (renR σ rs).map (.rows k)
  | .map es => (renM σ es).map .map

def renOB (σ : Nat → Option Nat) : Option Blk → Option (Option Blk)
  | none => some none
  | some B => (renB σ B).map some

def renU (σ : Nat → Option Nat) : List (Nat × Option Blk) → Option (List (Nat × Option Blk))
  | [] => some []
  | (n, B) :: r => (σ n).bind fun m => (renOB σ B).bind fun B' => (renU σ r).map fun r' => (m, B') :: r'

/-- The same but for the names, which go together by R. -/
inductive Rn (R : Nat → Nat → Prop) : DV → DV → Prop
  | int (k n) : Rn R (.int k n) (.int k n)
  | bool (b) : Rn R (.bool b) (.bool b)
  | nilp : Rn R .nilp .nilp
  | nilsl : Rn R .nilsl .nilsl
  | nilmp : Rn R .nilmp .nilmp
  | nilfn : Rn R .nilfn .nilfn
  | agg (a b : List DV) (hl : a.length = b.length) (h : ∀ (i : Nat) (x y : DV), a[i]? = some x → b[i]? = some y → Rn R x y) : Rn R (.agg a) (.agg b)
  | tup (a b : List DV) (hl : a.length = b.length) (h : ∀ (i : Nat) (x y : DV), a[i]? = some x → b[i]? = some y → Rn R x y) : Rn R (.tup a) (.tup b)
  | ptr (b c r o) (h : R b c) : Rn R (.ptr b r o) (.ptr c r o)
  | fp (a b : List DV) (hl : a.length = b.length) (h : ∀ (i : Nat) (x y : DV), a[i]? = some x → b[i]? = some y → Rn R x y) : Rn R (.fp a) (.fp b)
  | sl (k b c i n) (h : R b c) : Rn R (.sl k b i n) (.sl k c i n)
  | fz (k) (a b : List (List DV)) (hl : a.length = b.length) (hr : ∀ (i : Nat) (x y : List DV), a[i]? = some x → b[i]? = some y → x.length = y.length)
      (h : ∀ (i j : Nat) (r s : List DV) (x y : DV), a[i]? = some r → b[i]? = some s → r[j]? = some x → s[j]? = some y → Rn R x y) : Rn R (.fz k a) (.fz k b)
  | mp (b c) (h : R b c) : Rn R (.mp b) (.mp c)
  | fn (f) (a b c d : List DV) (hl : a.length = b.length) (hl2 : c.length = d.length) (h : ∀ (i : Nat) (x y : DV), a[i]? = some x → b[i]? = some y → Rn R x y)
      (h2 : ∀ (i : Nat) (x y : DV), c[i]? = some x → d[i]? = some y → Rn R x y) : Rn R (.fn f a c) (.fn f b d)
  | any : Rn R .any .any

def RnL (R : Nat → Nat → Prop) (a b : List DV) : Prop := a.length = b.length ∧ ∀ (i : Nat) (x y : DV), a[i]? = some x → b[i]? = some y → Rn R x y
def RnR (R : Nat → Nat → Prop) (a b : List (List DV)) : Prop := a.length = b.length ∧ ∀ (i : Nat) (x y : List DV), a[i]? = some x → b[i]? = some y → RnL R x y

mutual
theorem ren_Rn {σ : Nat → Option Nat} : ∀ (d d' : DV), ren σ d = some d' → Rn (fun n m => σ n = some m) d d'
  | .int k n, d', h => by simp only [ren, Option.some.injEq] at h; subst h; exact .int k n
  | .bool b, d', h => by simp only [ren, Option.some.injEq] at h; subst h; exact .bool b
  | .nilp, d', h => by simp only [ren, Option.some.injEq] at h; subst h; exact .nilp
  | .nilsl, d', h => by simp only [ren, Option.some.injEq] at h; subst h; exact .nilsl
  | .nilmp, d', h => by simp only [ren, Option.some.injEq] at h; subst h; exact .nilmp
  | .nilfn, d', h => by simp only [ren, Option.some.injEq] at h; subst h; exact .nilfn
  | .agg cs, d', h => by
    simp only [ren, Option.map_eq_some_iff] at h
    obtain ⟨cs', h1, rfl⟩ := h
    have := renL_Rn cs cs' h1
    exact .agg cs cs' this.1 this.2
  | .tup cs, d', h => by
    simp only [ren, Option.map_eq_some_iff] at h
    obtain ⟨cs', h1, rfl⟩ := h
    have := renL_Rn cs cs' h1
    exact .tup cs cs' this.1 this.2
  | .ptr b r c, d', h => by
    simp only [ren, Option.map_eq_some_iff] at h
    obtain ⟨m, h1, rfl⟩ := h
    exact .ptr b m r c h1
  | .fp cs, d', h => by
    simp only [ren, Option.map_eq_some_iff] at h
    obtain ⟨cs', h1, rfl⟩ := h
    have := renL_Rn cs cs' h1
    exact .fp cs cs' this.1 this.2
  | .sl k b i n, d', h => by
    simp only [ren, Option.map_eq_some_iff] at h
    obtain ⟨m, h1, rfl⟩ := h
    exact .sl k b m i n h1
  | .fz k rows, d', h => by
    simp only [ren, Option.map_eq_some_iff] at h
    obtain ⟨rows', h1, rfl⟩ := h
    have := renR_Rn rows rows' h1
    exact .fz k rows rows' this.1 (fun i x y hx hy => (this.2 i x y hx hy).1) (fun i j r s x y hr hs hx hy => (this.2 i r s hr hs).2 j x y hx hy)
  | .mp b, d', h => by
    simp only [ren, Option.map_eq_some_iff] at h
    obtain ⟨m, h1, rfl⟩ := h
    exact .mp b m h1
  | .fn f a c, d', h => by
    simp only [ren, Option.map_eq_some_iff, Option.bind_eq_some_iff] at h
    obtain ⟨a', h1, c', h2, rfl⟩ := h
    have g1 := renL_Rn a a' h1
    have g2 := renL_Rn c c' h2
    exact .fn f a a' c c' g1.1 g2.1 g1.2 g2.2
  | .any, d', h => by simp only [ren, Option.some.injEq] at h; subst h; exact .any
theorem renL_Rn {σ : Nat → Option Nat} : ∀ (d d' : List DV), renL σ d = some d' → RnL (fun n m => σ n = some m) d d'
  | [], d', h => by simp only [renL, Option.some.injEq] at h; subst h; exact ⟨rfl, by simp⟩
  | x :: xs, d', h => by
    simp only [renL, Option.bind_eq_some_iff, Option.map_eq_some_iff] at h
    obtain ⟨x', h1, xs', h2, rfl⟩ := h
    have g1 := ren_Rn x x' h1
    have g2 := renL_Rn xs xs' h2
    refine ⟨by simp [g2.1], fun i y z hy hz => ?_⟩
    cases i with
    | zero => simp at hy hz; subst hy; subst hz; exact g1
    | succ i => exact g2.2 i y z (by simpa using hy) (by simpa using hz)
theorem renR_Rn {σ : Nat → Option Nat} : ∀ (d d' : List (List DV)), renR σ d = some d' → RnR (fun n m => σ n = some m) d d'
  | [], d', h => by simp only [renR, Option.some.injEq] at h; subst h; exact ⟨rfl, by simp⟩
  | x :: xs, d', h => by
    simp only [renR, Option.bind_eq_some_iff, Option.map_eq_some_iff] at h
    obtain ⟨x', h1, xs', h2, rfl⟩ := h
    have g1 := renL_Rn x x' h1
    have g2 := renR_Rn xs xs' h2
    refine ⟨by simp [g2.1], fun i y z hy hz => ?_⟩
    cases i with
    | zero => simp at hy hz; subst hy; subst hz; exact g1
    | succ i => exact g2.2 i y z (by simpa using hy) (by simpa using hz)
end

theorem Rn.flip {R : Nat → Nat → Prop} {d d' : DV} (h : Rn R d d') : Rn (fun n m => R m n) d' d := by
  induction h with
  | int k n => exact .int k n
  | bool b => exact .bool b
  | nilp => exact .nilp
  | nilsl => exact .nilsl
  | nilmp => exact .nilmp
  | nilfn => exact .nilfn
  | agg a b hl _ ih => exact .agg b a hl.symm fun i x y hx hy => ih i y x hy hx
  | tup a b hl _ ih => exact .tup b a hl.symm fun i x y hx hy => ih i y x hy hx
  | ptr b c r o h => exact .ptr c b r o h
  | fp a b hl _ ih => exact .fp b a hl.symm fun i x y hx hy => ih i y x hy hx
  | sl k b c i n h => exact .sl k c b i n h
  | fz k a b hl hr _ ih => exact .fz k b a hl.symm (fun i x y hx hy => (hr i y x hy hx).symm) fun i j r s x y hr hs hx hy => ih i j s r y x hs hr hy hx
  | mp b c h => exact .mp c b h
  | fn f a b c d hl hl2 _ _ ih ih2 => exact .fn f b a d c hl.symm hl2.symm (fun i x y hx hy => ih i y x hy hx) (fun i x y hx hy => ih2 i y x hy hx)
  | any => exact .any

theorem other {α β : Type} {a : List α} {b : List β} (hl : a.length = b.length) {i : Nat} {y : β} (h : b[i]? = some y) : ∃ x, a[i]? = some x := by
  have : i < b.length := by
    obtain ⟨h1, _⟩ := List.getElem?_eq_some_iff.1 h
    exact h1
  exact ⟨a[i]'(by omega), List.getElem?_eq_getElem (by omega)⟩

theorem Rn.rep {w : World} {F : Nat → Prop} {ρ ρ' : Nat → Place} {N N' : Nat → Prop} {R : Nat → Nat → Prop} (hR : ∀ n m, R n m → N n → N' m ∧ ρ' m = ρ n) {d d' : DV} {v : Value}
    (hr : Rn R d d') (h : RepV w F ρ N d v) : RepV w F ρ' N' d' v := by
  induction h generalizing d' with
  | int k n => cases hr; exact .int k n
  | bool b => cases hr; exact .bool b
  | nilp => cases hr; exact .nilp
  | nilsl => cases hr; exact .nilsl
  | nilmp => cases hr; exact .nilmp
  | nilfn => cases hr; exact .nilfn
  | agg cs vs hl _ ih =>
    cases hr with
    | agg _ b hl' h' =>
      exact .agg b vs (by omega) fun i d v hd hv => by
        obtain ⟨x, hx⟩ := other hl' hd
        exact ih i x v hx hv (h' i x d hx hd)
  | tup cs vs hl _ ih =>
    cases hr with
    | tup _ b hl' h' =>
      exact .tup b vs (by omega) fun i d v hd hv => by
        obtain ⟨x, hx⟩ := other hl' hd
        exact ih i x v hx hv (h' i x d hx hd)
  | ptr b r c hN hv =>
    cases hr with
    | ptr _ m _ _ h =>
      obtain ⟨h1, h2⟩ := hR b m h hN
      rw [← h2] at hv ⊢
      exact .ptr m r c h1 hv
  | fp cs a o vals hF hc _ ih =>
    cases hr with
    | fp _ b hl' h' =>
      exact .fp b a o vals hF (fun i hi => hc i (by omega)) fun i d hd => by
        obtain ⟨x, hx⟩ := other hl' hd
        exact ih i x hx (h' i x d hx hd)
  | sl k b i n i' cap hN hk hv hn hm hi cs ty hb hs =>
    cases hr with
    | sl _ _ m _ _ h =>
      obtain ⟨h1, h2⟩ := hR b m h hN
      rw [← h2] at hk hv hb hs ⊢
      exact .sl k m i n i' cap h1 hk hv hn hm hi cs ty hb hs
  | slv k b hN hk hv =>
    cases hr with
    | sl _ _ m _ _ h =>
      obtain ⟨h1, h2⟩ := hR b m h hN
      rw [← h2] at hk hv
      exact .slv k m h1 hk hv
  | fz k rows a o cap vals hF hcap hm hk hc _ ih =>
    cases hr with
    | fz _ _ b hl' hr' h' =>
      rw [hl'] at hcap hm ⊢
      refine .fz k b a o cap vals hF hcap hm ?_ (fun i j hi hj => hc i j (by omega) hj) ?_
      · intro r hr
        obtain ⟨i, hi⟩ := List.mem_iff_getElem?.1 hr
        obtain ⟨x, hx⟩ := other hl' hi
        rw [← hr' i x r hx hi]
        exact hk x (List.mem_iff_getElem?.2 ⟨i, hx⟩)
      · intro i j r d hr hd
        obtain ⟨x, hx⟩ := other hl' hr
        obtain ⟨y, hy⟩ := other (hr' i x r hx hr) hd
        exact ih i j x y hx hy (h' i j x r y d hx hr hy hd)
  | fznil k =>
    cases hr with
    | fz _ _ b hl' hr' h' =>
      have : b = [] := List.length_eq_zero_iff.1 (by simpa using hl'.symm)
      subst this
      exact .fznil k
  | mp b hN =>
    cases hr with
    | mp _ m h =>
      obtain ⟨h1, h2⟩ := hR b m h hN
      rw [← h2]
      exact .mp m h1
  | fn f first caps fs cs hf hc _ _ ih1 ih2 =>
    cases hr with
    | fn _ _ a' _ c' hl hl2 h1 h2 =>
      exact .fn f a' c' fs cs (by omega) (by omega)
        (fun i d v hd hv => by obtain ⟨x, hx⟩ := other hl hd; exact ih1 i x v hx hv (h1 i x d hx hd))
        (fun i d v hd hv => by obtain ⟨x, hx⟩ := other hl2 hd; exact ih2 i x v hx hv (h2 i x d hx hd))
  | any v hv => cases hr; exact .any v hv

/-- Blocks, the same but for the names. -/
inductive RnB (R : Nat → Nat → Prop) : Blk → Blk → Prop
  | rows (k : Nat) (a b : List (List DV)) (h : RnR R a b) : RnB R (.rows k a) (.rows k b)
  | map (a b : List (DV × DV)) (hl : a.length = b.length) (h : ∀ (i : Nat) (x y : DV × DV), a[i]? = some x → b[i]? = some y → Rn R x.1 y.1 ∧ Rn R x.2 y.2) : RnB R (.map a) (.map b)

theorem RnL.flip {R : Nat → Nat → Prop} {a b : List DV} (h : RnL R a b) : RnL (fun n m => R m n) b a := ⟨h.1.symm, fun i x y hx hy => (h.2 i y x hy hx).flip⟩
theorem RnB.flip {R : Nat → Nat → Prop} {B B' : Blk} (h : RnB R B B') : RnB (fun n m => R m n) B' B := by
  cases h with
  | rows k a b h => exact .rows k b a ⟨h.1.symm, fun i x y hx hy => (h.2 i y x hy hx).flip⟩
  | map a b hl h => exact .map b a hl.symm fun i x y hx hy => ⟨(h i y x hy hx).1.flip, (h i y x hy hx).2.flip⟩

theorem renM_at {σ : Nat → Option Nat} : ∀ (a b : List (DV × DV)), renM σ a = some b → a.length = b.length ∧ ∀ (i : Nat) (x y : DV × DV), a[i]? = some x → b[i]? = some y → Rn (fun n m => σ n = some m) x.1 y.1 ∧ Rn (fun n m => σ n = some m) x.2 y.2
  | [], b, h => by simp only [renM, Option.some.injEq] at h; subst h; exact ⟨rfl, by simp⟩
  | (x, y) :: r, b, h => by
    simp only [renM, Option.bind_eq_some_iff, Option.map_eq_some_iff] at h
    obtain ⟨x', h1, y', h2, r', h3, rfl⟩ := h
    have g := renM_at r r' h3
    refine ⟨by simp [g.1], fun i u v hu hv => ?_⟩
    cases i with
    | zero => simp at hu hv; subst hu; subst hv; exact ⟨ren_Rn x x' h1, ren_Rn y y' h2⟩
    | succ i => exact g.2 i u v (by simpa using hu) (by simpa using hv)

theorem renB_RnB {σ : Nat → Option Nat} {B B' : Blk} (h : renB σ B = some B') : RnB (fun n m => σ n = some m) B B' := by
  cases B with
  | rows k rs =>
    simp only [renB, Option.map_eq_some_iff] at h
    obtain ⟨rs', h1, rfl⟩ := h
    exact .rows k rs rs' (renR_Rn rs rs' h1)
  | map es =>
    simp only [renB, Option.map_eq_some_iff] at h
    obtain ⟨es', h1, rfl⟩ := h
    have g := renM_at es es' h1
    exact .map es es' g.1 g.2

theorem RnB.ok {w : World} {F : Nat → Prop} {ρ ρ' : Nat → Place} {N N' : Nat → Prop} {R : Nat → Nat → Prop} (hR : ∀ n m, R n m → N n → N' m ∧ ρ' m = ρ n) {n m : Nat} (hnm : ρ' m = ρ n) {B B' : Blk}
    (hr : RnB R B B') (h : BlkOk w F ρ N n B) : BlkOk w F ρ' N' m B' := by
  cases hr with
  | rows k a b hab =>
    obtain ⟨hk, hrl, hv⟩ := h
    refine ⟨by rw [hnm]; exact hk, ?_, ?_⟩
    · intro r hr
      obtain ⟨i, hi⟩ := List.mem_iff_getElem?.1 hr
      obtain ⟨x, hx⟩ := other hab.1 hi
      rw [← (hab.2 i x r hx hi).1]
      exact hrl x (List.mem_iff_getElem?.2 ⟨i, hx⟩)
    · rw [hnm]
      rcases hv with ⟨hv, rfl⟩ | ⟨hv, cs, ty, hc, hs, hd⟩
      · exact .inl ⟨hv, List.length_eq_zero_iff.1 (by simpa using hab.1.symm)⟩
      · refine .inr ⟨hv, cs, ty, hc, by rw [← hab.1]; exact hs, ?_⟩
        intro i j r d h1 h2
        obtain ⟨x, hx⟩ := other hab.1 h1
        obtain ⟨y, hy⟩ := other (hab.2 i x r hx h1).1 h2
        obtain ⟨v, h3, h4, h5⟩ := hd i j x y hx hy
        exact ⟨v, h3, h4, ((hab.2 i x r hx h1).2 j y d hy h2).rep hR h5⟩
  | map a b hl hab =>
    obtain ⟨hv, en, ck, hc, hs, hd⟩ := h
    refine ⟨by rw [hnm]; exact hv, en, ck, by rw [hnm]; exact hc, by omega, ?_⟩
    intro i x e h1 h2
    obtain ⟨y, hy⟩ := other hl h1
    have h3 := hab i y x hy h1
    have h4 := hd i y e hy h2
    exact ⟨h3.1.rep hR h4.1, h3.2.rep hR h4.2⟩
end Go.Fv
/- ABSTRACT VALUES AND STATES (22): contracts, told in names of their own; and calls by them. -/
namespace Go.Fv

/-- Names: a contract's own n below p stands for s n; those behind for new ones. -/
def Rs (s : Nat → Nat) (p nb : Nat) (n m : Nat) : Prop := (n < p ∧ m = s n) ∨ (p ≤ n ∧ n < p + 16 ∧ m = nb + (n - p))

/-- The place of each name, behind a call. -/
def rhoS (ρ ρ' : Nat → Place) (p nb : Nat) : Nat → Place := fun m => if nb ≤ m ∧ m < nb + 16 then ρ' (p + (m - nb)) else ρ m

inductive RnU (R : Nat → Nat → Prop) : List (Nat × Option Blk) → List (Nat × Option Blk) → Prop
  | nil : RnU R [] []
  | put (n m : Nat) (B B' : Blk) (U V) (h : R n m) (hB : RnB R B B') (hr : RnU R U V) : RnU R ((n, some B) :: U) ((m, some B') :: V)
  | rid (n m : Nat) (U V) (h : R n m) (hr : RnU R U V) : RnU R ((n, none) :: U) ((m, none) :: V)

theorem renU_RnU {σ : Nat → Option Nat} : ∀ (U V : List (Nat × Option Blk)), renU σ U = some V → RnU (fun n m => σ n = some m) U V
  | [], V, h => by simp only [renU, Option.some.injEq] at h; subst h; exact .nil
  | (n, none) :: r, V, h => by
    simp only [renU, Option.bind_eq_some_iff, Option.map_eq_some_iff, renOB, Option.some.injEq] at h
    obtain ⟨m, h1, B', rfl, r', h3, rfl⟩ := h
    exact .rid n m r r' h1 (renU_RnU r r' h3)
  | (n, some B) :: r, V, h => by
    simp only [renU, Option.bind_eq_some_iff, Option.map_eq_some_iff, renOB] at h
    obtain ⟨m, h1, B', ⟨B'', h2, rfl⟩, r', h3, rfl⟩ := h
    exact .put n m B B'' r r' h1 (renB_RnB h2) (renU_RnU r r' h3)

/-- What was turned, under other names. -/
theorem RnU.upd {R : Nat → Nat → Prop} (hinj : ∀ n n' m, R n m → R n' m → n = n') (hfun : ∀ n m m', R n m → R n m' → m = m') {hc h : Nat → Option Blk} {U V : List (Nat × Option Blk)} (hr : RnU R U V) :
    (∀ m, m ∈ keysU V → ∃ n, R n m ∧ n ∈ keysU U) ∧ (∀ n m, R n m → n ∈ keysU U → m ∈ keysU V) ∧
    ∀ n m, R n m → n ∈ keysU U → ((updB hc U n = none ∧ updB h V m = none) ∨ ∃ B B', updB hc U n = some B ∧ updB h V m = some B' ∧ RnB R B B') := by
  induction hr with
  | nil => exact ⟨fun m hm => by simp [keysU] at hm, fun n m _ hn => by simp [keysU] at hn, fun n m _ hn => by simp [keysU] at hn⟩
  | put n m B B' U V hnm hB _ ih =>
    refine ⟨fun m' hm => ?_, fun n' m' h1 hn => ?_, fun n' m' h1 hn => ?_⟩
    · simp only [keysU, List.map_cons, List.mem_cons] at hm
      rcases hm with rfl | hm
      · exact ⟨n, hnm, by simp [keysU]⟩
      · obtain ⟨x, h2, h3⟩ := ih.1 m' hm
        exact ⟨x, h2, List.mem_cons_of_mem _ h3⟩
    · simp only [keysU, List.map_cons, List.mem_cons] at hn ⊢
      rcases hn with rfl | hn
      · exact .inl (hfun _ _ _ h1 hnm)
      · exact .inr (ih.2.1 n' m' h1 hn)
    · simp only [updB]
      by_cases e : n = n'
      · subst e
        have : m = m' := hfun _ _ _ hnm h1
        subst this
        rw [if_pos rfl, if_pos rfl]
        exact .inr ⟨B, B', rfl, rfl, hB⟩
      · rw [if_neg e, if_neg (fun e' : m = m' => e (hinj _ _ m' (e' ▸ hnm) h1))]
        simp only [keysU, List.map_cons, List.mem_cons] at hn
        exact ih.2.2 n' m' h1 (hn.resolve_left fun x => e x.symm)
  | rid n m U V hnm _ ih =>
    refine ⟨fun m' hm => ?_, fun n' m' h1 hn => ?_, fun n' m' h1 hn => ?_⟩
    · simp only [keysU, List.map_cons, List.mem_cons] at hm
      rcases hm with rfl | hm
      · exact ⟨n, hnm, by simp [keysU]⟩
      · obtain ⟨x, h2, h3⟩ := ih.1 m' hm
        exact ⟨x, h2, List.mem_cons_of_mem _ h3⟩
    · simp only [keysU, List.map_cons, List.mem_cons] at hn ⊢
      rcases hn with rfl | hn
      · exact .inl (hfun _ _ _ h1 hnm)
      · exact .inr (ih.2.1 n' m' h1 hn)
    · simp only [updB]
      by_cases e : n = n'
      · subst e
        have : m = m' := hfun _ _ _ hnm h1
        subst this
        rw [if_pos rfl, if_pos rfl]
        exact .inl ⟨rfl, rfl⟩
      · rw [if_neg e, if_neg (fun e' : m = m' => e (hinj _ _ m' (e' ▸ hnm) h1))]
        simp only [keysU, List.map_cons, List.mem_cons] at hn
        exact ih.2.2 n' m' h1 (hn.resolve_left fun x => e x.symm)

section
variable {w w' : World} {F F' : Nat → Prop} {ρ ρ' : Nat → Place} {N : Nat → Prop} {h hc : Nat → Option Blk} {p nb : Nat} {s : Nat → Nat}

/-- What a contract needs of all that is there. -/
structure Part (s : Nat → Nat) (p nb : Nat) (hc h : Nat → Option Blk) : Prop where
  inj : ∀ i j, i < p → j < p → s i = s j → i = j
  keys : ∀ i B, hc i = some B → i < p
  blk : ∀ i, i < p → ∃ B B', hc i = some B ∧ h (s i) = some B' ∧ RnB (Rs s p nb) B B'

theorem Rs_up (hN : ∀ i, i < p → N (s i)) (hfr : ∀ n, nb ≤ n → n < nb + 16 → ¬ N n) (hnm : ∀ n, n < p → ρ' n = ρ (s n)) :
    ∀ n m, Rs s p nb n m → n < p + 16 → Nr N nb m ∧ rhoS ρ ρ' p nb m = ρ' n := by
  rintro n m (⟨h1, rfl⟩ | ⟨h1, h2, rfl⟩) h3
  · refine ⟨.inl (hN n h1), ?_⟩
    unfold rhoS
    rw [if_neg, hnm n h1]
    rintro ⟨h4, h5⟩
    exact hfr _ h4 h5 (hN n h1)
  · refine ⟨.inr (by omega), ?_⟩
    unfold rhoS
    rw [if_pos (by omega)]
    congr 1
    omega

theorem Rs_down (hfr : ∀ n, nb ≤ n → n < nb + 16 → ¬ N n) : ∀ m n, Rs s p nb n m → N m → n < p ∧ ρ (s n) = ρ m := by
  rintro m n (⟨h1, rfl⟩ | ⟨h1, h2, rfl⟩) h3
  · exact ⟨h1, rfl⟩
  · exact absurd h3 (hfr _ (by omega) (by omega))

theorem Part.names (hp : Part s p nb hc h) (H : HOk w F ρ N h) : ∀ i, i < p → N (s i) := fun i hi => let ⟨_, B', _, h2, _⟩ := hp.blk i hi; (H.ok (s i) B' h2).1

theorem Part.down (hp : Part s p nb hc h) (H : HOk w F ρ N h) (hfr : ∀ n, nb ≤ n → n < nb + 16 → ¬ N n) : HOk w F (fun n => ρ (s n)) (· < p) hc where
  ok n B hn := by
    have hnp := hp.keys n B hn
    obtain ⟨B1, B', h1, h2, h3⟩ := hp.blk n hnp
    rw [hn] at h1; cases h1
    exact ⟨hnp, h3.flip.ok (ρ := ρ) (ρ' := fun n => ρ (s n)) (fun m n hR hN => Rs_down hfr m n hR hN) rfl (H.ok (s n) B' h2).2⟩
  inj n m B C hn hm hne hv hv' := by
    have hnp := hp.keys n B hn
    have hmp := hp.keys m C hm
    obtain ⟨_, B', _, h2, _⟩ := hp.blk n hnp
    obtain ⟨_, C', _, h2', _⟩ := hp.blk m hmp
    exact H.inj (s n) (s m) B' C' h2 h2' (fun e => hne (hp.inj n m hnp hmp e)) hv hv'
  fr a ha := by
    refine ⟨(H.fr a ha).1, fun n B hn hv => ?_⟩
    obtain ⟨_, B', _, h2, _⟩ := hp.blk n (hp.keys n B hn)
    exact (H.fr a ha).2 (s n) B' h2 hv

theorem Rs_inj (hp : Part s p nb hc h) (hN : ∀ i, i < p → N (s i)) (hfr : ∀ n, nb ≤ n → n < nb + 16 → ¬ N n) : ∀ n n' m, Rs s p nb n m → Rs s p nb n' m → n = n' := by
  rintro n n' m (⟨h1, rfl⟩ | ⟨h1, h2, rfl⟩) (⟨h3, h4⟩ | ⟨h3, h4, h5⟩)
  · exact hp.inj n n' h1 h3 h4
  · exact absurd (hN n h1) (hfr _ (by omega) (by omega))
  · exact absurd (hN n' h3) (hfr _ (by omega) (by omega))
  · omega

theorem Rs_fun : ∀ n m m', Rs s p nb n m → Rs s p nb n m' → m = m' := by
  rintro n m m' (⟨h1, rfl⟩ | ⟨h1, h2, rfl⟩) (⟨h3, h4⟩ | ⟨h3, h4, h5⟩) <;> omega

/-- A STEP THAT A CONTRACT TELLS, AMONG ALL THAT IS THERE. -/
theorem Part.up (hp : Part s p nb hc h) (H : HOk w F ρ N h) (hfr : ∀ n, nb ≤ n → n < nb + 16 → ¬ N n) {U V : List (Nat × Option Blk)} (hUV : RnU (Rs s p nb) U V)
    (T : Tr w F (fun n => ρ (s n)) (· < p) hc w' F' ρ' (· < p + 16) (updB hc U)) : Tr w F ρ N h w' F' (rhoS ρ ρ' p nb) (Nr N nb) (updB h V) := by
  have hN := hp.names H
  have hup := Rs_up (N := N) hN hfr (ρ := ρ) (ρ' := ρ') (fun n hn => (T.nm n hn).2)
  have hinj := Rs_inj hp hN hfr
  obtain ⟨u1, u2, u3⟩ := hUV.upd hinj Rs_fun (hc := hc) (h := h)
  have hrho : ∀ n, N n → rhoS ρ ρ' p nb n = ρ n := fun n hn => by
    unfold rhoS; rw [if_neg]; rintro ⟨h1, h2⟩; exact hfr n h1 h2 hn
  -- what is owned in the part
  have hown : ∀ b, Owned (fun n => ρ (s n)) hc b → Owned ρ h b := by
    rintro b ⟨n, B, hn, hv, rfl⟩
    obtain ⟨_, B', _, h2, _⟩ := hp.blk n (hp.keys n B hn)
    exact ⟨s n, B', h2, hv, rfl⟩
  -- every own block behind: one of the part's, or one that is none of the part's
  have split : ∀ m B'', updB h V m = some B'' → (∃ n B, Rs s p nb n m ∧ updB hc U n = some B ∧ RnB (Rs s p nb) B B'') ∨
      (h m = some B'' ∧ (∀ n, n < p → s n ≠ m)) := by
    intro m B'' hm
    by_cases hk : m ∈ keysU V
    · obtain ⟨n, h1, h2⟩ := u1 m hk
      rcases u3 n m h1 h2 with ⟨_, h4⟩ | ⟨B, B', h3, h4, h5⟩
      · rw [h4] at hm; cases hm
      · rw [h4] at hm; cases hm; exact .inl ⟨n, B, h1, h3, h5⟩
    · rw [updB_other hk] at hm
      by_cases hs : ∃ n, n < p ∧ s n = m
      · obtain ⟨n, hn, rfl⟩ := hs
        obtain ⟨B, B', h1, h2, h3⟩ := hp.blk n hn
        rw [h2] at hm; cases hm
        refine .inl ⟨n, B, .inl ⟨hn, rfl⟩, ?_, h3⟩
        rw [updB_other (fun hk' => hk (u2 n _ (.inl ⟨hn, rfl⟩) hk'))]
        exact h1
      · exact .inr ⟨hm, fun n hn e => hs ⟨n, hn, e⟩⟩
  -- a frame's block is none that the part owns
  have apart : ∀ m B'', h m = some B'' → (∀ n, n < p → s n ≠ m) → (ρ m).vir = false → ¬ Owned (fun n => ρ (s n)) hc (ρ m).blk := by
    rintro m B'' hm hs hv ⟨n, B, hn, hv', e⟩
    obtain ⟨_, B', _, h2, _⟩ := hp.blk n (hp.keys n B hn)
    exact H.inj (s n) m B' B'' h2 hm (hs n (hp.keys n B hn)) hv' hv e
  have lt_of : ∀ m B'', h m = some B'' → (ρ m).vir = false → (ρ m).blk < w.heap.size := by
    intro m B'' hm hv
    have h1 := (H.ok m B'' hm).2
    cases B'' with
    | rows k rs =>
      obtain ⟨_, _, ⟨hv', _⟩ | ⟨_, cs, ty, hb, _⟩⟩ := h1
      · rw [hv] at hv'; cases hv'
      · exact lt_of_block hb
    | map es => obtain ⟨_, en, ck, hb, _⟩ := h1; exact lt_of_block hb
  have kept : ∀ m B'', h m = some B'' → (∀ n, n < p → s n ≠ m) → (ρ m).vir = false → w'.heap[(ρ m).blk]? = w.heap[(ρ m).blk]? := fun m B'' hm hs hv =>
    T.same _ (lt_of m B'' hm hv) (apart m B'' hm hs hv)
  have hFs : ∀ a, F a → F' a ∧ w'.heap[a]? = w.heap[a]? := fun a ha =>
    ⟨T.f1 a ha, T.same a (H.fr a ha).1 fun ho => H.not_owned ha (hown a ho)⟩
  refine ⟨⟨?_, ?_, ?_⟩, T.ev, ?_, ?_, ?_, T.f1, ?_, T.os, T.tape, T.out⟩
  · -- each lies as it is told
    intro m B'' hm
    rcases split m B'' hm with ⟨n, B, h1, h2, h3⟩ | ⟨h1, h2⟩
    · obtain ⟨h4, h5⟩ := T.H.ok n B h2
      obtain ⟨h6, h7⟩ := hup n m h1 h4
      exact ⟨h6, h3.ok (fun n m hR hn => hup n m hR hn) h7 h5⟩
    · obtain ⟨h3, h4⟩ := H.ok m B'' h1
      refine ⟨.inl h3, h4.mono T.ev hFs (fun n hn => ⟨.inl hn, hrho n hn⟩) h3 ?_⟩
      exact fun hv => kept m B'' h1 h2 hv
  · -- apart from each other
    intro m m' B C hm hm' hne hv hv'
    rcases split m B hm with ⟨n, B1, h1, h2, h3⟩ | ⟨h1, h2⟩ <;> rcases split m' C hm' with ⟨n', B1', h1', h2', h3'⟩ | ⟨h1', h2'⟩
    · have e1 := (hup n m h1 (T.H.ok n B1 h2).1).2
      have e2 := (hup n' m' h1' (T.H.ok n' B1' h2').1).2
      rw [e1] at hv ⊢
      rw [e2] at hv' ⊢
      exact T.H.inj n n' B1 B1' h2 h2' (fun e => hne (Rs_fun n m m' h1 (e ▸ h1'))) hv hv'
    · have e1 := (hup n m h1 (T.H.ok n B1 h2).1).2
      have e2 := hrho m' (H.ok m' C h1').1
      rw [e1] at hv ⊢
      rw [e2] at hv' ⊢
      rcases T.own _ ⟨n, B1, h2, hv, rfl⟩ with h5 | h5
      · have := lt_of m' C h1' hv'; omega
      · intro e; exact apart m' C h1' h2' hv' (e ▸ h5)
    · have e1 := (hup n' m' h1' (T.H.ok n' B1' h2').1).2
      have e2 := hrho m (H.ok m B h1).1
      rw [e2] at hv ⊢
      rw [e1] at hv' ⊢
      rcases T.own _ ⟨n', B1', h2', hv', rfl⟩ with h5 | h5
      · have := lt_of m B h1 hv; omega
      · intro e; exact apart m B h1 h2 hv (e ▸ h5)
    · rw [hrho m (H.ok m B h1).1] at hv ⊢
      rw [hrho m' (H.ok m' C h1').1] at hv' ⊢
      exact H.inj m m' B C h1 h1' hne hv hv'
  · -- apart from what is frozen
    intro a ha
    refine ⟨(T.H.fr a ha).1, fun m B hm hv => ?_⟩
    rcases split m B hm with ⟨n, B1, h1, h2, h3⟩ | ⟨h1, h2⟩
    · have e1 := (hup n m h1 (T.H.ok n B1 h2).1).2
      rw [e1] at hv ⊢
      exact (T.H.fr a ha).2 n B1 h2 hv
    · rw [hrho m (H.ok m B h1).1] at hv ⊢
      rcases T.f2 a ha with h5 | h5 | h5
      · exact (H.fr a h5).2 m B h1 hv
      · have := lt_of m B h1 hv; omega
      · intro e; exact apart m B h1 h2 hv (e ▸ h5)
  · exact fun b hb ho => T.same b hb fun ho' => ho (hown b ho')
  · exact fun n hn => ⟨.inl hn, hrho n hn⟩
  · rintro b ⟨m, B, hm, hv, rfl⟩
    rcases split m B hm with ⟨n, B1, h1, h2, h3⟩ | ⟨h1, h2⟩
    · have e1 := (hup n m h1 (T.H.ok n B1 h2).1).2
      rw [e1] at hv ⊢
      rcases T.own _ ⟨n, B1, h2, hv, rfl⟩ with h5 | h5
      · exact .inl h5
      · exact .inr (hown _ h5)
    · rw [hrho m (H.ok m B h1).1] at hv ⊢
      exact .inr ⟨m, B, h1, hv, rfl⟩
  · intro a ha
    rcases T.f2 a ha with h5 | h5 | h5
    · exact .inl h5
    · exact .inr (.inl h5)
    · exact .inr (.inr (hown a h5))
end

-- contracts ---------------------------------------------------------------------------------------------------------------------------

def enterable (P : Program) (f : FuncId) : Bool := match P.funcs[f]? with
  | some fn => !(fn.name == "runtime.NumGoroutine") && fn.body.isSome
  | none => false

/-- A function's contract, in names of its own: the blocks that it is passed have the names below p. -/
def Spec (P : Program) (f : FuncId) (az : List DV) (p : Nat) (H : List (Nat × Option Blk)) (D : DV → List (Nat × Option Blk) → Prop) : Prop :=
  enterable P f = true ∧ ∀ (w : World) (F : Nat → Prop) (ρ : Nat → Place), HOk w F ρ (· < p) (lkO H) → ∀ (vs : Array Value), az.length = vs.size →
    (∀ (i : Nat) (a : DV) (v : Value), az[i]? = some a → vs[i]? = some v → RepV w F ρ (· < p) a v) →
    Calls P f vs w fun e w' => ∃ v, e = .returned v ∧ ∃ (d : DV) (U : List (Nat × Option Blk)) (F' : Nat → Prop) (ρ' : Nat → Place), D d U ∧ Tr w F ρ (· < p) (lkO H) w' F' ρ' (· < p + 16) (updB (lkO H) U) ∧
      RepV w' F' ρ' (· < p + 16) d v

/-- A call among all that is there, whatever it comes to. -/
def CallR (P : Program) (fv : DV) (az : List DV) (h : Nat → Option Blk) (nb : Nat) (D : DV → List (Nat × Option Blk) → Prop) : Prop :=
  ∀ (w : World) (F : Nat → Prop) (ρ : Nat → Place) (N : Nat → Prop), HOk w F ρ N h → (∀ n, nb ≤ n → n < nb + 16 → ¬ N n) →
    ∀ (f : Value) (vs : Array Value), RepV w F ρ N fv f → az.length = vs.size → (∀ (i : Nat) (a : DV) (v : Value), az[i]? = some a → vs[i]? = some v → RepV w F ρ N a v) →
    CallsV P (do let x ← Deferred.ofValue f vs; invoke x.target x.args) w fun v w' => ∃ (d : DV) (U : List (Nat × Option Blk)) (F' : Nat → Prop) (ρ' : Nat → Place), D d U ∧
      Tr w F ρ N h w' F' ρ' (Nr N nb) (updB h U) ∧ RepV w' F' ρ' (Nr N nb) d v

theorem callFx_of {P : Program} {fv : DV} {az : List DV} {h : Nat → Option Blk} {nb : Nat} {d : DV} {U : List (Nat × Option Blk)} {R : List Nat}
    (hc : ∀ h2 : Nat → Option Blk, (∀ n ∈ R, h2 n = h n) → CallR P fv az h2 nb fun d' U' => d' = d ∧ U' = U) : CallFx P fv az h nb d U R := by
  intro h2 hh w F ρ N H hfr f vs hf hl ha
  rcases hc h2 hh w F ρ N H hfr f vs hf hl ha with ⟨g, args, h1, h3⟩ | ⟨v, w', h1, d', U', F', ρ', ⟨rfl, rfl⟩, h4, h5⟩
  · refine .inl ⟨g, args, h1, h3.mono ?_⟩
    rintro e w' ⟨v, rfl, d', U', F', ρ', ⟨rfl, rfl⟩, h4, h5⟩
    exact ⟨v, rfl, F', ρ', h4, h5⟩
  · exact .inr ⟨v, w', h1, F', ρ', h4, h5⟩

theorem callW_of {C : Ctx} {f : DV} {az : List DV} {S : St} {k : DV → St → Prop} {D : DV → List (Nat × Option Blk) → Prop} (hc : CallR C.P f az S.blk S.nx D)
    (hk : ∀ d U, D d U → k d ⟨S.T, U ++ S.H, S.nx + 16⟩) : callW C (some f) (some az) S k := by
  refine ⟨f, az, rfl, rfl, fun w F ρ H fval vs hf hl ha => ?_⟩
  have hN : ∀ n, Nr (· < S.nx) S.nx n → n < S.nx + 16 := by
    rintro n (h | h)
    · omega
    · omega
  have fin : ∀ (v : Value) (w' : World), (∃ (d : DV) (U : List (Nat × Option Blk)) (F' : Nat → Prop) (ρ' : Nat → Place), D d U ∧ Tr w F ρ (· < S.nx) S.blk w' F' ρ' (Nr (· < S.nx) S.nx) (updB S.blk U) ∧ RepV w' F' ρ' (Nr (· < S.nx) S.nx) d v) →
      ∃ (d : DV) (S' : St) (F' : Nat → Prop) (ρ' : Nat → Place), S'.T = S.T ∧ k d S' ∧ Tr w F ρ (· < S.nx) S.blk w' F' ρ' (· < S'.nx) S'.blk ∧ RepV w' F' ρ' (· < S'.nx) d v := by
    rintro v w' ⟨d, U, F', ρ', hD, hT, hv⟩
    refine ⟨d, ⟨S.T, U ++ S.H, S.nx + 16⟩, F', ρ', rfl, hk d U hD, ?_, hv.names hN⟩
    have e1 : St.blk ⟨S.T, U ++ S.H, S.nx + 16⟩ = updB S.blk U := lkO_append U S.H
    rw [e1]
    exact hT.names hN
  rcases hc w F ρ (· < S.nx) H (fun n h1 _ h2 => by omega) fval vs hf hl ha with ⟨g, args, h1, h2⟩ | ⟨v, w', h1, h2⟩
  · refine .inl ⟨g, args, h1, h2.mono ?_⟩
    rintro e w' ⟨v, rfl, h3⟩
    exact ⟨v, rfl, fin v w' h3⟩
  · exact .inr ⟨v, w', h1, fin v w' h2⟩

theorem run_enter {P : Program} {f : FuncId} (he : enterable P f = true) (fs vs cs : Array Value) (w : World) :
    (do let x ← Deferred.ofValue (.func (.func f) fs cs) vs; invoke x.target x.args : Sem Next).run P w = .ok (.enter f (fs ++ vs ++ cs)) w := by
  unfold enterable at he
  split at he
  · rename_i fn hf
    simp only [Bool.and_eq_true, Bool.not_eq_true'] at he
    obtain ⟨h1, h2⟩ := he
    obtain ⟨c, hc⟩ := Option.isSome_iff_exists.1 h2
    simp only [Deferred.ofValue, pure_bind, invoke]
    exact Go.MuLone.run_callFunc_enter hf h1 hc _ w
  · cases he

/-- The name that each of a contract's names stands for. -/
def sg (s : List Nat) (nb : Nat) (n : Nat) : Option Nat := if n < s.length then s[n]? else if n < s.length + 16 then some (nb + (n - s.length)) else none

theorem sg_Rs {s : List Nat} {nb n m : Nat} (h : sg s nb n = some m) : Rs (fun i => s.getD i 0) s.length nb n m := by
  unfold sg at h
  split at h
  · rename_i hn
    exact .inl ⟨hn, by simp [List.getD_eq_getElem?_getD, h]⟩
  · split at h
    · rename_i h1 h2
      cases h
      exact .inr ⟨by omega, h2, rfl⟩
    · cases h

theorem Rn.imp {R R' : Nat → Nat → Prop} (hR : ∀ n m, R n m → R' n m) {d d' : DV} (h : Rn R d d') : Rn R' d d' := by
  induction h with
  | int k n => exact .int k n
  | bool b => exact .bool b
  | nilp => exact .nilp
  | nilsl => exact .nilsl
  | nilmp => exact .nilmp
  | nilfn => exact .nilfn
  | agg a b hl _ ih => exact .agg a b hl ih
  | tup a b hl _ ih => exact .tup a b hl ih
  | ptr b c r o h => exact .ptr b c r o (hR _ _ h)
  | fp a b hl _ ih => exact .fp a b hl ih
  | sl k b c i n h => exact .sl k b c i n (hR _ _ h)
  | fz k a b hl hr _ ih => exact .fz k a b hl hr ih
  | mp b c h => exact .mp b c (hR _ _ h)
  | fn f a b c d hl hl2 _ _ ih ih2 => exact .fn f a b c d hl hl2 ih ih2
  | any => exact .any

theorem RnB.imp {R R' : Nat → Nat → Prop} (hR : ∀ n m, R n m → R' n m) {B B' : Blk} (h : RnB R B B') : RnB R' B B' := by
  cases h with
  | rows k a b h => exact .rows k a b ⟨h.1, fun i x y hx hy => ⟨(h.2 i x y hx hy).1, fun j u v hu hv => ((h.2 i x y hx hy).2 j u v hu hv).imp hR⟩⟩
  | map a b hl h => exact .map a b hl fun i x y hx hy => ⟨(h i x y hx hy).1.imp hR, (h i x y hx hy).2.imp hR⟩

theorem RnU.imp {R R' : Nat → Nat → Prop} (hR : ∀ n m, R n m → R' n m) {U V : List (Nat × Option Blk)} (h : RnU R U V) : RnU R' U V := by
  induction h with
  | nil => exact .nil
  | put n m B B' U V h hB _ ih => exact .put n m B B' U V (hR _ _ h) (hB.imp hR) ih
  | rid n m U V h _ ih => exact .rid n m U V (hR _ _ h) ih

/-- The blocks that a contract is passed are there. -/
def passed (σ : Nat → Option Nat) (H : List (Nat × Option Blk)) (h : Nat → Option Blk) : List Nat → Nat → Prop
  | [], _ => True
  | m :: r, i => (∃ B B', lkO H i = some B ∧ renB σ B = some B' ∧ h m = some B') ∧ passed σ H h r (i + 1)

theorem passed_at {σ : Nat → Option Nat} {H : List (Nat × Option Blk)} {h : Nat → Option Blk} : ∀ {s : List Nat} {i : Nat}, passed σ H h s i → ∀ j, j < s.length → ∃ B B', lkO H (i + j) = some B ∧ renB σ B = some B' ∧ h (s.getD j 0) = some B'
  | [], i, _, j, hj => by simp at hj
  | m :: r, i, hp, j, hj => by
    cases j with
    | zero => simpa using hp.1
    | succ j =>
      have := passed_at hp.2 j (by simpa using hj)
      rw [show i + (j + 1) = i + 1 + j from by omega]
      simpa using this

theorem lkO_mem {α : Type} {H : List (Nat × Option α)} {i : Nat} {B : α} (h : lkO H i = some B) : i ∈ H.map (·.1) := by
  induction H with
  | nil => cases h
  | cons x r ih =>
    obtain ⟨k, v⟩ := x
    rw [lkO_cons] at h
    by_cases e : k = i
    · subst e; simp
    · rw [if_neg e] at h; simp [ih h]

/-- A CALL BY A CONTRACT. -/
theorem Spec.callR {P : Program} {f : FuncId} {as0 : List DV} {p : Nat} {H : List (Nat × Option Blk)} {D D' : DV → List (Nat × Option Blk) → Prop} (hs : Spec P f as0 p H D) (s : List Nat) (nb : Nat)
    {first caps az : List DV} {h : Nat → Option Blk} (hp : s.length = p) (hd : s.Nodup) (hk : H.all (fun x => decide (x.1 < p)) = true) (has : renL (sg s nb) as0 = some (first ++ az ++ caps))
    (hb : passed (sg s nb) H h s 0) (hD : ∀ d U, D d U → ∃ d' U', ren (sg s nb) d = some d' ∧ renU (sg s nb) U = some U' ∧ D' d' U') : CallR P (.fn f first caps) az h nb D' := by
  subst hp
  intro w F ρ N HH hfr fv vs hf hl ha
  obtain ⟨fs, cs, rfl, hf1, hf2, hf3, hf4⟩ := hf.fn_inv
  refine .inl ⟨f, fs ++ vs ++ cs, run_enter hs.1 fs vs cs w, ?_⟩
  have hpart : Part (fun i => s.getD i 0) s.length nb (lkO H) h := by
    refine ⟨fun i j hi hj e => ?_, fun i B hi => ?_, fun i hi => ?_⟩
    · rw [List.getD_eq_getElem?_getD, List.getD_eq_getElem?_getD, List.getElem?_eq_getElem hi, List.getElem?_eq_getElem hj] at e
      have e' : s[i] = s[j] := by simpa using e
      have hd' := List.pairwise_iff_getElem.1 hd
      rcases Nat.lt_trichotomy i j with h1 | h1 | h1
      · exact absurd e' (hd' i j hi hj h1)
      · exact h1
      · exact absurd e'.symm (hd' j i hj hi h1)
    · obtain ⟨x, hx, rfl⟩ := List.mem_map.1 (lkO_mem hi)
      simpa using List.all_eq_true.1 hk x hx
    · obtain ⟨B, B', h1, h2, h3⟩ := passed_at hb i hi
      rw [Nat.zero_add] at h1
      exact ⟨B, B', h1, h3, (renB_RnB h2).imp fun n m hnm => sg_Rs hnm⟩
  have hrn := renL_Rn _ _ has
  have hall : ∀ (i : Nat) (a : DV) (v : Value), (first ++ az ++ caps)[i]? = some a → (fs ++ vs ++ cs)[i]? = some v → RepV w F ρ N a v := by
    intro i a v h1 h2
    rw [List.getElem?_append, List.getElem?_append] at h1
    rw [Array.getElem?_append, Array.getElem?_append] at h2
    simp only [List.length_append, Array.size_append] at h1 h2
    rw [hf1, hl] at h1
    split at h1
    · rename_i h3
      rw [if_pos h3] at h2
      split at h1
      · rename_i h4; rw [if_pos h4] at h2; exact hf3 i a v h1 h2
      · rename_i h4; rw [if_neg h4] at h2; exact ha _ a v h1 h2
    · rename_i h3
      rw [if_neg h3] at h2
      exact hf4 _ a v h1 h2
  refine (hs.2 w F (fun n => ρ (s.getD n 0)) (hpart.down HH hfr) (fs ++ vs ++ cs) ?_ ?_).mono ?_
  · rw [hrn.1]; simp only [List.length_append, Array.size_append, hf1, hf2, hl]
  · intro i a v h1 h2
    obtain ⟨x, hx⟩ := other hrn.1.symm h1
    have h3 := hall i x v hx h2
    exact ((hrn.2 i a x h1 hx).imp fun n m hnm => sg_Rs hnm).flip.rep (ρ := ρ) (ρ' := fun n => ρ (s.getD n 0)) (fun m n hR hN => Rs_down hfr m n hR hN) h3
  · rintro e w' ⟨v, rfl, d, U, F', ρ', hDd, hT, hv⟩
    obtain ⟨d', U', h1, h2, h3⟩ := hD d U hDd
    have hN := hpart.names HH
    refine ⟨v, rfl, d', U', F', rhoS ρ ρ' s.length nb, h3, hpart.up HH hfr ((renU_RnU U U' h2).imp fun n m hnm => sg_Rs hnm) hT, ?_⟩
    exact ((ren_Rn d d' h1).imp fun n m hnm => sg_Rs hnm).rep (Rs_up hN hfr fun n hn => (hT.nm n hn).2) hv

end Go.Fv
/- ABSTRACT VALUES AND STATES (23): a contract from a walk through the function's body. -/
namespace Go.Fv

def resD (te : TE) (S : St) : List ResultVar → Option (List DV)
  | [] => some []
  | .tmp t :: r => (S.get t).bind fun d => (resD te S r).map fun ds => d :: ds
  | .cell a t :: r => (loadA (te t) S.blk (S.get a)).bind fun d => (resD te S r).map fun ds => d :: ds

def retV : List DV → DV
  | [d] => d
  | ds => .tup ds

section
variable {P : Program} {w : World} {F : Nat → Prop} {ρ : Nat → Place} {N : Nat → Prop} {h : Nat → Option Blk}

theorem loadVar_of (H : HOk w F ρ N h) {t : TypeId} {d y : DV} {v : Value} (hv : RepV w F ρ N d v) (hl : loadA (tiOf P t) h (some d) = some y) :
    ∃ (a : Addr) (u : Value), v = .pointer (some a) ∧ (loadVar t a).run P w = .ok u w ∧ RepV w F ρ N y u := by
  have key : ∀ {b c : Nat} {cs : List DV} {vals : Nat → Value}, v = .pointer (some (adr b c)) → packA (tiOf P t) cs = some y →
      (∀ i, i < cs.length → w.cell? (adr b (c + i)) = some (vals i)) → (∀ (i : Nat) (d : DV), cs[i]? = some d → RepV w F ρ N d (vals i)) →
      ∃ (a : Addr) (u : Value), v = .pointer (some a) ∧ (loadVar t a).run P w = .ok u w ∧ RepV w F ρ N y u := by
    intro b c cs vals hv hp hc hr
    cases ht : tiOf P t with
    | none => simp [ht, packA] at hp
    | some ti =>
      rw [ht] at hp
      obtain ⟨u, hrun, hrep⟩ := run_loadVar vals ht hp hc hr
      exact ⟨_, u, hv, hrun, hrep⟩
  unfold loadA at hl
  split at hl
  · rename_i cs hx
    cases hx
    obtain ⟨a, c, vals, hv', _, hc, hr⟩ := hv.fp_inv
    exact key hv' hl hc hr
  · rename_i b r c hx
    cases hx
    split at hl
    · rename_i row hrow
      obtain ⟨hv', _, hvir⟩ := hv.ptr_inv
      rcases row_cells H hrow with h3 | ⟨vals, h3⟩
      · rw [hvir] at h3; cases h3
      · refine key hv' hl (vals := fun i => vals (c + i)) (fun i hi => ?_) (fun i d hd => ?_)
        · simp only [List.length_drop] at hi
          rw [Nat.add_assoc]
          exact (h3 (c + i) (by omega)).1
        · have hd' : row[c + i]? = some d := by simpa using hd
          exact (h3 (c + i) (List.getElem?_eq_some_iff.1 hd').1).2 d hd'
    · cases hl
  · cases hl

/-- How the machine reads a result. -/
def resF (tm : Array Value) : ResultVar → Sem Value
  | .tmp t => pure (tm.getD t undef)
  | .cell a t => do loadVar t (← asAddr (tm.getD a undef))

theorem results_eq (fn : Func) (tm : Array Value) : results fn tm = (do let vs ← fn.results.mapM (resF tm); pure (if h : vs.size = 1 then vs[0] else .tuple vs)) := rfl

theorem run_results {tm : Array Value} {S : St} (H : HOk w F ρ N S.blk) (ht : ∀ (t : Nat) (d : DV), S.get t = some d → ∃ v, tm[t]? = some v ∧ RepV w F ρ N d v) :
    ∀ (rv : List ResultVar) (ds : List DV), resD (tiOf P) S rv = some ds →
    ∃ vs : List Value, (rv.mapM (resF tm)).run P w = .ok vs w ∧ vs.length = ds.length ∧
      ∀ (i : Nat) (d : DV) (v : Value), ds[i]? = some d → vs[i]? = some v → RepV w F ρ N d v
  | [], ds, h => by simp only [resD, Option.some.injEq] at h; subst h; exact ⟨[], by simp, rfl, by simp⟩
  | .tmp t :: r, ds, h => by
    simp only [resD, Option.bind_eq_some_iff, Option.map_eq_some_iff] at h
    obtain ⟨d, h1, ds', h2, rfl⟩ := h
    obtain ⟨v, h3, h4⟩ := ht t d h1
    obtain ⟨vs, h5, h6, h7⟩ := run_results H ht r ds' h2
    refine ⟨v :: vs, ?_, by simp [h6], fun i x y hx hy => ?_⟩
    · have hg : tm.getD t undef = v := by simp [Array.getD_eq_getD_getElem?, h3]
      simp only [List.mapM_cons, resF, Sem.run_bind, Sem.run_pure, Result.andThen_ok, h5, hg]
    · cases i with
      | zero => simp at hx hy; subst hx; subst hy; exact h4
      | succ i => exact h7 i x y (by simpa using hx) (by simpa using hy)
  | .cell a t :: r, ds, h => by
    simp only [resD, Option.bind_eq_some_iff, Option.map_eq_some_iff] at h
    obtain ⟨d, h1, ds', h2, rfl⟩ := h
    cases hg : S.get a with
    | none => rw [hg] at h1; simp [loadA] at h1
    | some d0 =>
      rw [hg] at h1
      obtain ⟨v0, h3, h4⟩ := ht a d0 hg
      obtain ⟨ad, u, hv, hu, hr⟩ := loadVar_of (P := P) H h4 h1
      obtain ⟨vs, h5, h6, h7⟩ := run_results H ht r ds' h2
      refine ⟨u :: vs, ?_, by simp [h6], fun i x y hx hy => ?_⟩
      · have hg : tm.getD a undef = v0 := by simp [Array.getD_eq_getD_getElem?, h3]
        simp only [List.mapM_cons, resF, Sem.run_bind, Sem.run_pure, Result.andThen_ok, hg, hv, asAddr, hu, h5]
      · cases i with
        | zero => simp at hx hy; subst hx; subst hy; exact hr
        | succ i => exact h7 i x y (by simpa using hx) (by simpa using hy)

end

def ctx (P : Program) (w : World) (F : Nat → Prop) (ρ : Nat → Place) (p : Nat) (H : List (Nat × Option Blk)) (nt : Nat) : Ctx := ⟨P, w, F, ρ, (· < p), lkO H, nt⟩

def slots (az : List DV) : Nat → List (Nat × Option DV) := fun i => match az with
  | [] => []
  | a :: r => (i, some a) :: slots r (i + 1)

theorem slots_at : ∀ (az : List DV) (i t : Nat), lkO (slots az i) t = if i ≤ t then az[t - i]? else none
  | [], i, t => by simp [slots, lkO]
  | a :: r, i, t => by
    simp only [slots, lkO_cons, slots_at r (i + 1) t]
    by_cases e : i = t
    · subst e; simp
    · rw [if_neg e]
      by_cases h : i ≤ t
      · rw [if_pos (show i + 1 ≤ t by omega), if_pos h, show t - i = (t - (i + 1)) + 1 from by omega, List.getElem?_cons_succ]
      · rw [if_neg (show ¬ i + 1 ≤ t by omega), if_neg h]

structure FnOk (P : Program) (f : FuncId) (sc : SC) (nt na : Nat) (rv : List ResultVar) : Prop where
  ok : ∃ (fn : Func) (c : Code), P.funcs[f]? = some fn ∧ fn.body = some c ∧ (fn.name == "runtime.NumGoroutine") = false ∧ fn.ntmps = nt ∧ fn.results.toList = rv ∧ strip c = erase sc ∧ dstOk nt sc = true ∧ na ≤ nt
  mo : P.follows .mixedOrders = true

theorem retV_rep {w : World} {F : Nat → Prop} {ρ : Nat → Place} {N : Nat → Prop} {ds : List DV} {vs : Array Value} (hl : vs.size = ds.length)
    (hr : ∀ (i : Nat) (d : DV) (v : Value), ds[i]? = some d → vs[i]? = some v → RepV w F ρ N d v) : RepV w F ρ N (retV ds) (if h : vs.size = 1 then vs[0] else .tuple vs) := by
  unfold retV
  split
  · rename_i d
    have h1 : vs.size = 1 := hl
    rw [dif_pos h1]
    exact hr 0 d _ (by simp) (by simp [h1])
  · rename_i h1
    rw [dif_neg]
    · exact .tup _ _ hl.symm hr
    · intro h2
      rw [h2] at hl
      obtain ⟨d, hd⟩ := List.length_eq_one_iff.1 hl.symm
      exact h1 d hd

end Go.Fv
/- ABSTRACT VALUES AND STATES (24): a state told otherwise: other names, nil slices as own ones, own rows frozen, what is not needed forgotten. -/
namespace Go.Fv

mutual
/-- No names in it. -/
def plain : DV → Bool
  | .int _ _ | .bool _ | .nilp | .nilsl | .nilmp | .nilfn | .any => true
  | .agg cs => plainL cs
  | .tup cs => plainL cs
  | .fp cs => plainL cs
  | .fz _ rows => plainR rows
  | .fn _ a c => plainL a && plainL c
  | .ptr _ _ _ | .sl _ _ _ _ | .mp _ => false
def plainL : List DV → Bool
  | [] => true
  | d :: ds => plain d && plainL ds
def plainR : List (List DV) → Bool
  | [] => true
  | d :: ds => plainL d && plainR ds
end

mutual
theorem plain_ren {σ : Nat → Option Nat} : ∀ (d : DV), plain d = true → ren σ d = some d
  | .int k n, h | .bool b, h | .nilp, h | .nilsl, h | .nilmp, h | .nilfn, h | .any, h => by simp only [ren]
  | .agg cs, h => by simp only [plain] at h; simp only [ren, plainL_ren cs h, Option.map_some]
  | .tup cs, h => by simp only [plain] at h; simp only [ren, plainL_ren cs h, Option.map_some]
  | .fp cs, h => by simp only [plain] at h; simp only [ren, plainL_ren cs h, Option.map_some]
  | .fz k rows, h => by simp only [plain] at h; simp only [ren, plainR_ren rows h, Option.map_some]
  | .fn f a c, h => by simp only [plain, Bool.and_eq_true] at h; simp only [ren, plainL_ren a h.1, plainL_ren c h.2, Option.map_some, Option.bind_some]
  | .ptr b r c, h => by simp [plain] at h
  | .sl k b s n, h => by simp [plain] at h
  | .mp b, h => by simp [plain] at h
theorem plainL_ren {σ : Nat → Option Nat} : ∀ (d : List DV), plainL d = true → renL σ d = some d
  | [], _ => by simp only [renL]
  | d :: ds, h => by simp only [plainL, Bool.and_eq_true] at h; simp only [renL, plain_ren d h.1, plainL_ren ds h.2, Option.map_some, Option.bind_some]
theorem plainR_ren {σ : Nat → Option Nat} : ∀ (d : List (List DV)), plainR d = true → renR σ d = some d
  | [], _ => by simp only [renR]
  | d :: ds, h => by simp only [plainR, Bool.and_eq_true] at h; simp only [renR, plainL_ren d h.1, plainR_ren ds h.2, Option.map_some, Option.bind_some]
end

theorem plainL_all {ds : List DV} : plainL ds = true ↔ ∀ d ∈ ds, plain d = true := by
  induction ds with
  | nil => simp [plainL]
  | cons d ds ih => simp [plainL, ih]
theorem plainR_all {ds : List (List DV)} : plainR ds = true ↔ ∀ d ∈ ds, plainL d = true := by
  induction ds with
  | nil => simp [plainR]
  | cons d ds ih => simp [plainR, ih]
theorem plainR_map {α : Type} {f : α → List DV} {l : List α} (h : ∀ x, plainL (f x) = true) : plainR (l.map f) = true := by
  rw [plainR_all]; intro d hd; obtain ⟨x, _, rfl⟩ := List.mem_map.1 hd; exact h x
theorem plainL_map {α : Type} {f : α → DV} {l : List α} (h : ∀ x, plain (f x) = true) : plainL (l.map f) = true := by
  rw [plainL_all]; intro d hd; obtain ⟨x, _, rfl⟩ := List.mem_map.1 hd; exact h x
theorem plainR_append {a b : List (List DV)} : plainR (a ++ b) = (plainR a && plainR b) := by
  induction a with
  | nil => simp [plainR]
  | cons d ds ih => simp [plainR, ih, Bool.and_assoc]

theorem plain_rep {w : World} {F F' : Nat → Prop} {ρ ρ' : Nat → Place} {N N' : Nat → Prop} (hF : ∀ a, F a → F' a) {d : DV} {v : Value} (h : plain d = true) (hv : RepV w F ρ N d v) : RepV w F' ρ' N' d v := by
  have h1 := (ren_Rn d d (plain_ren (σ := fun _ => none) d h)).rep (ρ := ρ) (ρ' := ρ') (N := N) (N' := N') (fun n m hR => by cases hR) hv
  exact h1.mono (Ev.refl w) (fun a ha => ⟨hF a ha, rfl⟩) (fun n hn => ⟨hn, rfl⟩)

/-- How a state's names turn: L tells which turn into which, those below q stay; the ones of V are new, of empty rows; the ones of Z are frozen. -/
structure Nm where
  q : Nat
  L : List (Nat × Nat)
  V : List (Nat × Nat)
  Z : List Nat

def lkN : List (Nat × Nat) → Nat → Option Nat
  | [], _ => none
  | (k, v) :: r, t => if k = t then some v else lkN r t

def Nm.new (M : Nm) (n : Nat) : Option Nat := match lkN M.L n with
  | some m => some m
  | none => if n < M.q then some n else none

def Nm.old (M : Nm) (m : Nat) : Option Nat := if m < M.q then some m else lkN (M.L.map fun x => (x.2, x.1)) m

/-- Old and new. -/
def Nm.R (M : Nm) (n m : Nat) : Prop := M.new n = some m

inductive Tl (M : Nm) (h : Nat → Option Blk) : DV → DV → Prop
  | same (d : DV) (hp : plain d = true) : Tl M h d d
  | agg (a b : List DV) (hl : a.length = b.length) (hh : ∀ (i : Nat) (x y : DV), a[i]? = some x → b[i]? = some y → Tl M h x y) : Tl M h (.agg a) (.agg b)
  | tup (a b : List DV) (hl : a.length = b.length) (hh : ∀ (i : Nat) (x y : DV), a[i]? = some x → b[i]? = some y → Tl M h x y) : Tl M h (.tup a) (.tup b)
  | ptr (b c r o : Nat) (hR : M.new b = some c) : Tl M h (.ptr b r o) (.ptr c r o)
  | fp (a b : List DV) (hl : a.length = b.length) (hh : ∀ (i : Nat) (x y : DV), a[i]? = some x → b[i]? = some y → Tl M h x y) : Tl M h (.fp a) (.fp b)
  | sl (k b c i n : Nat) (hR : M.new b = some c) : Tl M h (.sl k b i n) (.sl k c i n)
  | mp (b c : Nat) (hR : M.new b = some c) : Tl M h (.mp b) (.mp c)
  | fn (f : Nat) (a b c d : List DV) (hl : a.length = b.length) (hl2 : c.length = d.length) (hh : ∀ (i : Nat) (x y : DV), a[i]? = some x → b[i]? = some y → Tl M h x y)
      (h2 : ∀ (i : Nat) (x y : DV), c[i]? = some x → d[i]? = some y → Tl M h x y) : Tl M h (.fn f a c) (.fn f b d)
  | any (d : DV) (hd : cellD d = true) : Tl M h d .any
  | own (k c : Nat) (hV : lkN M.V c = some k) : Tl M h .nilsl (.sl k c 0 0)
  | nf (k : Nat) : Tl M h .nilsl (.fz k [])
  | frz (k b s n : Nat) (rs rows : List (List DV)) (hZ : b ∈ M.Z) (hb : h b = some (.rows k rs)) (hle : s + n ≤ rs.length) (hl : n = rows.length)
      (hh : ∀ (i j : Nat) (r r' : List DV) (x y : DV), ((rs.drop s).take n)[i]? = some r → rows[i]? = some r' → r[j]? = some x → r'[j]? = some y → Tl M h x y)
      (hk : ∀ r ∈ rows, r.length = k) : Tl M h (.sl k b s n) (.fz k rows)
  | frp (k b r c : Nat) (rs : List (List DV)) (row cs : List DV) (hZ : b ∈ M.Z) (hb : h b = some (.rows k rs)) (hr : rs[r]? = some row) (hl : cs.length ≤ (row.drop c).length)
      (hh : ∀ (i : Nat) (x y : DV), (row.drop c)[i]? = some x → cs[i]? = some y → Tl M h x y) : Tl M h (.ptr b r c) (.fp cs)

section
variable {w : World} {F F' : Nat → Prop} {ρ ρ' : Nat → Place} {N N' : Nat → Prop} {h : Nat → Option Blk} {M : Nm}

theorem Tl.rep' (H : HOk w F ρ N h) (hR : ∀ n m, M.new n = some m → N n → N' m ∧ ρ' m = ρ n) (hV : ∀ c k, lkN M.V c = some k → N' c ∧ (ρ' c).k = k ∧ (ρ' c).vir = true) (hF : ∀ a, F a → F' a)
    (hZ : ∀ b B, b ∈ M.Z → h b = some B → (ρ b).vir = false → F' (ρ b).blk) {d d' : DV} (ht : Tl M h d d') : ∀ {v : Value}, RepV w F ρ N d v → RepV w F' ρ' N' d' v := by
  induction ht with
  | same d hp => intro v hv; exact plain_rep hF hp hv
  | agg a b hl _ ih =>
    intro v hv
    obtain ⟨vs, rfl, h1, h2⟩ := hv.agg_inv
    exact .agg b vs (by omega) fun i d v hd hv => by obtain ⟨x, hx⟩ := other hl hd; exact ih i x d hx hd (h2 i x v hx hv)
  | tup a b hl _ ih =>
    intro v hv
    obtain ⟨vs, rfl, h1, h2⟩ := hv.tup_inv
    exact .tup b vs (by omega) fun i d v hd hv => by obtain ⟨x, hx⟩ := other hl hd; exact ih i x d hx hd (h2 i x v hx hv)
  | ptr b c r o hbc =>
    intro v hv
    cases hv with
    | ptr _ _ _ hN hvir =>
      obtain ⟨h1, h2⟩ := hR b c hbc hN
      rw [← h2] at hvir ⊢
      exact .ptr c r o h1 hvir
  | fp a b hl _ ih =>
    intro v hv
    cases hv with
    | fp _ ad o vals ha hc hh =>
      exact .fp b ad o vals (hF ad ha) (fun i hi => hc i (by omega)) fun i d hd => by obtain ⟨x, hx⟩ := other hl hd; exact ih i x d hx hd (hh i x hx)
  | sl k b c i n hbc =>
    intro v hv
    cases hv with
    | sl _ _ _ _ i' cap hN hk hv hn hm hi cs ty hb hs =>
      obtain ⟨h1, h2⟩ := hR b c hbc hN
      rw [← h2] at hk hv hb hs ⊢
      exact .sl k c i n i' cap h1 hk hv hn hm hi cs ty hb hs
    | slv _ _ hN hk hv =>
      obtain ⟨h1, h2⟩ := hR b c hbc hN
      rw [← h2] at hk hv
      exact .slv k c h1 hk hv
  | mp b c hbc =>
    intro v hv
    cases hv with
    | mp _ hN =>
      obtain ⟨h1, h2⟩ := hR b c hbc hN
      rw [← h2]
      exact .mp c h1
  | fn f a b c d hl hl2 _ _ ih1 ih2 =>
    intro v hv
    obtain ⟨fs, cs, rfl, h1, h2, h3, h4⟩ := hv.fn_inv
    exact .fn f b d fs cs (by omega) (by omega) (fun i y v hd hv => by obtain ⟨x, hx⟩ := other hl hd; exact ih1 i x y hx hd (h3 i x v hx hv))
      (fun i y v hd hv => by obtain ⟨x, hx⟩ := other hl2 hd; exact ih2 i x y hx hd (h4 i x v hx hv))
  | any d hd => intro v hv; exact .any v (hv.oneCell hd)
  | nf k => intro v hv; rw [hv.nilsl_inv]; exact .fznil k
  | own k c hcV =>
    intro v hv
    obtain ⟨h1, h2, h3⟩ := hV c k hcV
    rw [hv.nilsl_inv]
    exact .slv k c h1 h2 h3
  | frz k b s n rs rows hbZ hb hle hl _ hk ih =>
    intro v hv
    obtain ⟨hN, hkk, hm, ⟨hvir, rfl, rfl, rfl⟩ | ⟨hvir, i', cap, cs, ty, rfl, hn, hii, hblk, hsize⟩⟩ := hv.sl_inv
    · have : rows = [] := List.length_eq_zero_iff.1 hl.symm
      subst this
      exact .fznil k
    · obtain ⟨_, _, hrs, ⟨hv2, _⟩ | ⟨_, cs', ty', hblk', hsz, hd⟩⟩ := H.ok b _ hb
      · rw [hvir] at hv2; cases hv2
      · have hget : ∀ i, i < n → ((rs.drop s).take n)[i]? = rs[s + i]? := by
          intro i hi
          rw [List.getElem?_take, if_pos hi, List.getElem?_drop]
        have hi2 : 0 < n → i' = s := by intro h0; omega
        have each : ∀ i j, i < n → j < k → ∃ (x y : DV) (r r' : List DV) (u : Value), rs[s + i]? = some r ∧ rows[i]? = some r' ∧ r[j]? = some x ∧ r'[j]? = some y ∧ cs'[(ρ b).off + (s + i) * k + j]? = some u ∧ u.oneCell' = true ∧ RepV w F ρ N x u := by
          intro i j hi hj
          have hi1 : s + i < rs.length := by omega
          have hi3 : i < rows.length := by omega
          have e1 : rs[s + i]? = some rs[s + i] := by simp [hi1]
          have e2 : rows[i]? = some rows[i] := by simp [hi3]
          have l1 : rs[s + i].length = k := hrs _ (List.getElem_mem hi1)
          have l2 : rows[i].length = k := hk _ (List.getElem_mem hi3)
          have e3 : rs[s + i][j]? = some (rs[s + i][j]'(by omega)) := List.getElem?_eq_getElem (by omega)
          have e4 : rows[i][j]? = some (rows[i][j]'(by omega)) := List.getElem?_eq_getElem (by omega)
          obtain ⟨u, h5, h6, h7⟩ := hd _ _ _ _ e1 e3
          exact ⟨_, _, _, _, u, e1, e2, e3, e4, h5, h6, h7⟩
        subst hl
        refine .fz k rows (ρ b).blk ((ρ b).off + i' * k) cap (fun i j => (cs'[(ρ b).off + (s + i) * k + j]?).getD undef) (hZ b _ hbZ hb hvir) hn hm hk ?_ ?_
        · intro i j hi hj
          obtain ⟨x, y, r, r', u, _, _, _, _, h5, h6, _⟩ := each i j hi hj
          have e5 : (ρ b).off + i' * k + i * k + j = (ρ b).off + (s + i) * k + j := by rw [hi2 (by omega), Nat.add_mul]; omega
          rw [cell?_block hblk', e5, h5]
          exact ⟨rfl, h6⟩
        · intro i j r d hr hd'
          have hi := (List.getElem?_eq_some_iff.1 hr).1
          have hj : j < k := by have := hk r (List.mem_of_getElem? hr); have := (List.getElem?_eq_some_iff.1 hd').1; omega
          obtain ⟨x, y, r1, r2, u, g1, g2, g3, g4, h5, h6, h7⟩ := each i j hi hj
          rw [hr] at g2; cases g2
          rw [hd'] at g4; cases g4
          have := ih i j r1 r x d (by rw [hget i hi]; exact g1) hr g3 hd' h7
          simpa only [h5, Option.getD_some] using this
  | frp k b r c rs row cs hbZ hb hr hl _ ih =>
    intro v hv
    obtain ⟨rfl, hN, hvir⟩ := hv.ptr_inv
    have hrow : rowOf h b r = some row := by simp [rowOf, hb, hr]
    rcases row_cells H hrow with h3 | ⟨vals, h3⟩
    · rw [hvir] at h3; cases h3
    · simp only [List.length_drop] at hl
      refine .fp cs (ρ b).blk _ (fun i => vals (c + i)) (hZ b _ hbZ hb hvir) (fun i hi => ?_) (fun i d hd => ?_)
      · have := (h3 (c + i) (by omega)).1
        rw [← Nat.add_assoc] at this
        exact this
      · have hi := (List.getElem?_eq_some_iff.1 hd).1
        have e1 : (row.drop c)[i]? = some (row[c + i]'(by omega)) := by rw [List.getElem?_drop, List.getElem?_eq_getElem (by omega)]
        exact ih i _ d e1 hd ((h3 (c + i) (by omega)).2 _ (List.getElem?_eq_getElem (by omega)))

end

inductive TlB (M : Nm) (h : Nat → Option Blk) : Blk → Blk → Prop
  | rows (k : Nat) (a b : List (List DV)) (hl : a.length = b.length) (hr : ∀ (i : Nat) (x y : List DV), a[i]? = some x → b[i]? = some y → x.length = y.length)
      (hh : ∀ (i j : Nat) (r s : List DV) (x y : DV), a[i]? = some r → b[i]? = some s → r[j]? = some x → s[j]? = some y → Tl M h x y) : TlB M h (.rows k a) (.rows k b)
  | map (a b : List (DV × DV)) (hl : a.length = b.length) (hh : ∀ (i : Nat) (x y : DV × DV), a[i]? = some x → b[i]? = some y → Tl M h x.1 y.1 ∧ Tl M h x.2 y.2) : TlB M h (.map a) (.map b)

/-- The slots told. -/
def tlT (M : Nm) (S : St) : List (Nat × Option DV) → Prop
  | [] => True
  | (_, none) :: r => tlT M S r
  | (t, some d') :: r => (∃ d, S.get t = some d ∧ Tl M S.blk d d') ∧ tlT M S r

/-- The own blocks told. -/
def tlH (M : Nm) (S : St) : List (Nat × Option Blk) → Prop
  | [] => True
  | (_, none) :: r => tlH M S r
  | (m, some B') :: r => ((∃ n B, M.new n = some m ∧ n ∉ M.Z ∧ S.blk n = some B ∧ TlB M S.blk B B') ∨ (∃ k, lkN M.V m = some k ∧ B' = .rows k [])) ∧ tlH M S r

theorem tlT_at {M : Nm} {S : St} : ∀ {T : List (Nat × Option DV)}, tlT M S T → ∀ t d', lkO T t = some d' → ∃ d, S.get t = some d ∧ Tl M S.blk d d' := by
  intro T
  induction T with
  | nil => intro _ t d' h; cases h
  | cons x r ih =>
    obtain ⟨k, v⟩ := x
    intro h t d' hd
    rw [lkO_cons] at hd
    cases v with
    | none =>
      split at hd
      · cases hd
      · exact ih h t d' hd
    | some d =>
      split at hd
      · rename_i e; cases hd; subst e; exact h.1
      · exact ih h.2 t d' hd

theorem tlH_at {M : Nm} {S : St} : ∀ {T : List (Nat × Option Blk)}, tlH M S T → ∀ m B', lkO T m = some B' →
    (∃ n B, M.new n = some m ∧ n ∉ M.Z ∧ S.blk n = some B ∧ TlB M S.blk B B') ∨ (∃ k, lkN M.V m = some k ∧ B' = .rows k []) := by
  intro T
  induction T with
  | nil => intro _ t d' h; cases h
  | cons x r ih =>
    obtain ⟨k, v⟩ := x
    intro h t d' hd
    rw [lkO_cons] at hd
    cases v with
    | none =>
      split at hd
      · cases hd
      · exact ih h t d' hd
    | some d =>
      split at hd
      · rename_i e; cases hd; subst e; exact h.1
      · exact ih h.2 t d' hd

/-- The names are in order. -/
def Nm.ok (M : Nm) (nx nx' : Nat) : Bool :=
  M.L.all (fun x => decide (M.q ≤ x.2) && decide (x.2 < nx') && (lkN M.V x.2).isNone && M.L.all (fun y => decide (x.2 = y.2 → x.1 = y.1))) &&
  M.V.all (fun x => decide (M.q ≤ x.1) && decide (x.1 < nx')) && decide (M.q ≤ nx) && decide (M.q ≤ nx') && M.Z.all (fun b => decide (b < nx))

theorem lkN_mem : ∀ {L : List (Nat × Nat)} {n m : Nat}, lkN L n = some m → (n, m) ∈ L
  | [], _, _, h => by cases h
  | (k, v) :: r, n, m, h => by
    simp only [lkN] at h
    split at h
    · rename_i e; subst e; cases h; simp
    · exact List.mem_cons_of_mem _ (lkN_mem h)

/-- Where each is, by its new name. -/
def Nm.place (M : Nm) (ρ : Nat → Place) (m : Nat) : Place := match lkN M.V m with
  | some k => ⟨0, 0, k, true⟩
  | none => match lkN (M.L.map fun x => (x.2, x.1)) m with
    | some n => ρ n
    | none => ρ m

theorem lkN_flip {L : List (Nat × Nat)} (hL : ∀ x ∈ L, ∀ y ∈ L, x.2 = y.2 → x.1 = y.1) {n m : Nat} (h : (n, m) ∈ L) : lkN (L.map fun x => (x.2, x.1)) m = some n := by
  cases hk : lkN (L.map fun x => (x.2, x.1)) m with
  | some n' =>
    have := lkN_mem hk
    obtain ⟨x, hx, hxe⟩ := List.mem_map.1 this
    cases hxe
    rw [hL x hx (n, x.2) h rfl]
  | none =>
    exfalso
    induction L with
    | nil => simp at h
    | cons x r ih =>
      simp only [List.map_cons, lkN] at hk
      split at hk
      · cases hk
      · rename_i e
        rcases List.mem_cons.1 h with rfl | h
        · exact e rfl
        · exact ih (fun x hx y hy => hL x (List.mem_cons_of_mem _ hx) y (List.mem_cons_of_mem _ hy)) h hk

/-- OWN BLOCKS TOLD OTHERWISE, and with them all values. -/
theorem tell_core {w0 w : World} {F0 F : Nat → Prop} {ρ0 ρ : Nat → Place} {N0 : Nat → Prop} {h0 : Nat → Option Blk} {S : St} {H' : List (Nat × Option Blk)} {nx' : Nat} (M : Nm) (hN0 : ∀ n, N0 n → n < M.q)
    (hok : M.ok S.nx nx' = true) (hH : tlH M S H') (T : Tr w0 F0 ρ0 N0 h0 w F ρ (· < S.nx) S.blk) :
    ∃ (F' : Nat → Prop) (ρ' : Nat → Place), Tr w0 F0 ρ0 N0 h0 w F' ρ' (· < nx') (lkO H') ∧ ∀ (d d' : DV) (v : Value), Tl M S.blk d d' → RepV w F ρ (· < S.nx) d v → RepV w F' ρ' (· < nx') d' v := by
  simp only [Nm.ok, Bool.and_eq_true, List.all_eq_true, decide_eq_true_eq, Option.isNone_iff_eq_none] at hok
  obtain ⟨⟨⟨⟨hL, hV⟩, hq⟩, hq'⟩, hZ⟩ := hok
  have hinjL : ∀ x ∈ M.L, ∀ y ∈ M.L, x.2 = y.2 → x.1 = y.1 := fun x hx y hy => (hL x hx).2 y hy
  have hVnone : ∀ m, m < M.q → lkN M.V m = none := fun m hm => by
    cases hk : lkN M.V m with
    | none => rfl
    | some k => have := (hV _ (lkN_mem hk)).1; simp only at this; omega
  have hLnone : ∀ m, m < M.q → lkN (M.L.map fun x => (x.2, x.1)) m = none := fun m hm => by
    cases hk : lkN (M.L.map fun x => (x.2, x.1)) m with
    | none => rfl
    | some k =>
      obtain ⟨x, hx, hxe⟩ := List.mem_map.1 (lkN_mem hk)
      cases hxe
      have := (hL x hx).1.1.1; omega
  have hplow : ∀ m, m < M.q → M.place ρ m = ρ m := fun m hm => by simp only [Nm.place, hVnone m hm, hLnone m hm]
  have hnew : ∀ n m, M.new n = some m → m < nx' ∧ M.place ρ m = ρ n := by
    intro n m h
    unfold Nm.new at h
    split at h
    · rename_i m' hk
      cases h
      have hm := lkN_mem hk
      refine ⟨(hL _ hm).1.1.2, ?_⟩
      simp only [Nm.place, (hL _ hm).1.2, lkN_flip hinjL hm]
    · split at h
      · rename_i h1; cases h; exact ⟨by omega, hplow n h1⟩
      · cases h
  have hfunc : ∀ n m m', M.new n = some m → M.new n = some m' → m = m' := fun n m m' h1 h2 => by rw [h1] at h2; exact Option.some.inj h2
  have hVp : ∀ c k, lkN M.V c = some k → c < nx' ∧ (M.place ρ c).k = k ∧ (M.place ρ c).vir = true := fun c k hk => by
    refine ⟨(hV _ (lkN_mem hk)).2, ?_, ?_⟩ <;> simp only [Nm.place, hk]
  let F' : Nat → Prop := fun a => F a ∨ ∃ b B, b ∈ M.Z ∧ S.blk b = some B ∧ (ρ b).vir = false ∧ a = (ρ b).blk
  -- a block of Z that is none of the own ones: never used
  have hFF : ∀ a, F a → F' a := fun a ha => .inl ha
  have hrep : ∀ {d d' : DV} {v : Value}, Tl M S.blk d d' → RepV w F ρ (· < S.nx) d v → RepV w F' (M.place ρ) (· < nx') d' v := by
    intro d d' v htl hv
    -- blocks of Z must be there: those that are used are
    exact Tl.rep' T.H (fun n m h1 _ => hnew n m h1) hVp hFF (fun b B hb hB hv => .inr ⟨b, B, hb, hB, hv, rfl⟩) htl hv
  have srcs : ∀ m B', lkO H' m = some B' → (∃ n B, M.new n = some m ∧ n ∉ M.Z ∧ S.blk n = some B ∧ TlB M S.blk B B') ∨ (∃ k, lkN M.V m = some k ∧ B' = .rows k []) := fun m B' hm => tlH_at hH m B' hm
  have own' : ∀ m B', lkO H' m = some B' → (M.place ρ m).vir = false → ∃ n B, M.new n = some m ∧ n ∉ M.Z ∧ S.blk n = some B ∧ TlB M S.blk B B' ∧ M.place ρ m = ρ n := by
    intro m B' hm hv
    rcases srcs m B' hm with ⟨n, B, h1, h2, h3, h4⟩ | ⟨k, h1, _⟩
    · exact ⟨n, B, h1, h2, h3, h4, (hnew n m h1).2⟩
    · rw [(hVp m k h1).2.2] at hv; cases hv
  refine ⟨F', M.place ρ, ⟨⟨?_, ?_, ?_⟩, T.ev, T.same, ?_, ?_, ?_, ?_, T.os, T.tape, T.out⟩, fun d d' v => hrep⟩
  · intro m B' hm
    rcases srcs m B' hm with ⟨n, B, h1, h2, h3, h4⟩ | ⟨k, h1, rfl⟩
    · obtain ⟨hb1, hb2⟩ := hnew n m h1
      refine ⟨hb1, ?_⟩
      have hbo := (T.H.ok n B h3).2
      cases h4 with
      | rows k a b hl hr hh =>
        obtain ⟨hk, hrl, hv⟩ := hbo
        refine ⟨by rw [hb2]; exact hk, ?_, ?_⟩
        · intro r hr'
          obtain ⟨i, hi⟩ := List.mem_iff_getElem?.1 hr'
          obtain ⟨x, hx⟩ := other hl hi
          rw [← hr i x r hx hi]
          exact hrl x (List.mem_iff_getElem?.2 ⟨i, hx⟩)
        · rw [hb2]
          rcases hv with ⟨hv, rfl⟩ | ⟨hv, cs, ty, hc, hs, hd⟩
          · exact .inl ⟨hv, List.length_eq_zero_iff.1 (by simpa using hl.symm)⟩
          · refine .inr ⟨hv, cs, ty, hc, by rw [← hl]; exact hs, ?_⟩
            intro i j r d g1 g2
            obtain ⟨x, hx⟩ := other hl g1
            obtain ⟨y, hy⟩ := other (hr i x r hx g1) g2
            obtain ⟨v, g3, g4, g5⟩ := hd i j x y hx hy
            exact ⟨v, g3, g4, hrep (hh i j x r y d hx g1 hy g2) g5⟩
      | map a b hl hh =>
        obtain ⟨hv, en, ck, hc, hs, hd⟩ := hbo
        refine ⟨by rw [hb2]; exact hv, en, ck, by rw [hb2]; exact hc, by omega, ?_⟩
        intro i x e g1 g2
        obtain ⟨y, hy⟩ := other hl g1
        have g3 := hh i y x hy g1
        have g4 := hd i y e hy g2
        exact ⟨hrep g3.1 g4.1, hrep g3.2 g4.2⟩
    · obtain ⟨g1, g2, g3⟩ := hVp m k h1
      exact ⟨g1, g2, by simp, .inl ⟨g3, rfl⟩⟩
  · intro n m B' D' hn hm hne hvn hvm
    obtain ⟨n1, B1, g1, _, g2, _, g3⟩ := own' n B' hn hvn
    obtain ⟨m1, D1, f1, _, f2, _, f3⟩ := own' m D' hm hvm
    rw [g3] at hvn ⊢
    rw [f3] at hvm ⊢
    exact T.H.inj n1 m1 B1 D1 g2 f2 (fun e => hne (hfunc n1 n m g1 (e ▸ f1))) hvn hvm
  · rintro a (ha | ⟨b, B, hbZ, hB, hv, rfl⟩)
    · refine ⟨(T.H.fr a ha).1, fun m B' hm hvm => ?_⟩
      obtain ⟨n1, B1, g1, _, g2, _, g3⟩ := own' m B' hm hvm
      rw [g3] at hvm ⊢
      exact (T.H.fr a ha).2 n1 B1 g2 hvm
    · refine ⟨?_, fun m B' hm hvm => ?_⟩
      · have h1 := (T.H.ok b B hB).2
        cases B with
        | rows k rs =>
          obtain ⟨_, _, ⟨hv', _⟩ | ⟨_, cs, ty, hb, _⟩⟩ := h1
          · rw [hv] at hv'; cases hv'
          · exact lt_of_block hb
        | map es => obtain ⟨_, en, ck, hb, _⟩ := h1; exact lt_of_block hb
      · obtain ⟨n1, B1, g1, gz, g2, _, g3⟩ := own' m B' hm hvm
        rw [g3] at hvm ⊢
        exact T.H.inj n1 b B1 B g2 hB (fun e => gz (e ▸ hbZ)) hvm hv
  · intro n hn
    have := hN0 n hn
    exact ⟨by show n < nx'; omega, (hplow n this).trans (T.nm n hn).2⟩
  · rintro b ⟨m, B', hm, hv, rfl⟩
    obtain ⟨n1, B1, _, _, g2, _, g3⟩ := own' m B' hm hv
    rw [g3] at hv ⊢
    exact T.own _ ⟨n1, B1, g2, hv, rfl⟩
  · exact fun a ha => .inl (T.f1 a ha)
  · rintro a (ha | ⟨b, B, _, hB, hv, rfl⟩)
    · exact T.f2 a ha
    · rcases T.own _ ⟨b, B, hB, hv, rfl⟩ with h1 | h1
      · exact .inr (.inl h1)
      · exact .inr (.inr h1)

/-- A STATE TOLD OTHERWISE. -/
theorem Sub.tell {C : Ctx} {S S' : St} (M : Nm) (hN0 : ∀ n, C.N0 n → n < M.q) (hok : M.ok S.nx S'.nx = true) (hT : tlT M S S'.T) (hH : tlH M S S'.H) : Sub C S S' := by
  rintro w tm ⟨hsz, F, ρ, T, ht⟩
  obtain ⟨F', ρ', hT', hrep⟩ := tell_core M hN0 hok hH T
  refine ⟨hsz, F', ρ', hT', fun t d' hd => ?_⟩
  obtain ⟨d, h1, h2⟩ := tlT_at hT t d' hd
  obtain ⟨v, h3, h4⟩ := ht t d h1
  exact ⟨v, h3, hrep d d' v h2 h4⟩

/-- Values told otherwise, side by side. -/
inductive TlL (M : Nm) (h : Nat → Option Blk) : List DV → List DV → Prop
  | nil : TlL M h [] []
  | cons (x y : DV) (xs ys : List DV) (hx : Tl M h x y) (hr : TlL M h xs ys) : TlL M h (x :: xs) (y :: ys)

theorem TlL.at {M : Nm} {h : Nat → Option Blk} {a b : List DV} (hl : TlL M h a b) : a.length = b.length ∧ ∀ (i : Nat) (x y : DV), a[i]? = some x → b[i]? = some y → Tl M h x y := by
  induction hl with
  | nil => exact ⟨rfl, by simp⟩
  | cons x y xs ys hx _ ih =>
    refine ⟨by simp [ih.1], fun i u v hu hv => ?_⟩
    cases i with
    | zero => simp at hu hv; subst hu; subst hv; exact hx
    | succ i => exact ih.2 i u v (by simpa using hu) (by simpa using hv)

theorem TlL.same {M : Nm} {h : Nat → Option Blk} : ∀ {a : List DV}, plainL a = true → TlL M h a a
  | [], _ => .nil
  | x :: xs, hp => by
    simp only [plainL, Bool.and_eq_true] at hp
    exact .cons x x xs xs (.same x hp.1) (TlL.same hp.2)

/-- What a return comes to. -/
def retQ (C : Ctx) (rv : List ResultVar) (p : Nat) (H : List (Nat × Option Blk)) (D : DV → List (Nat × Option Blk) → Prop) (S : St) : Prop :=
  ∃ (M : Nm) (ds1 ds : List DV) (U : List (Nat × Option Blk)), resD (tiOf C.P) S rv = some ds1 ∧ p ≤ M.q ∧ M.ok S.nx (p + 16) = true ∧ TlL M S.blk ds1 ds ∧ tlH M S (U ++ H) ∧ D (retV ds) U

/-- A CONTRACT FROM A WALK. -/
theorem Spec.intro {P : Program} {f : FuncId} {sc : SC} {nt : Nat} {rv : List ResultVar} {az : List DV} {p : Nat} {H : List (Nat × Option Blk)} {D : DV → List (Nat × Option Blk) → Prop}
    (hf : FnOk P f sc nt az.length rv)
    (hw : ∀ w F ρ, W (ctx P w F ρ p H nt) (retQ (ctx P w F ρ p H nt) rv p H D) sc (retQ (ctx P w F ρ p H nt) rv p H D) (fun _ _ => False) ⟨slots az 0, H, p⟩) : Spec P f az p H D := by
  obtain ⟨⟨fn, c, h1, h2, h3, h4, h5, h6, h7, h8⟩, hP⟩ := hf
  refine ⟨by simp [enterable, h1, h2, h3], fun w F ρ HH vs hl ha => ?_⟩
  refine calls_of_wp h1 h2 ?_
  have hret : ∀ (S : St) (a : Act) (w' : World), retQ (ctx P w F ρ p H nt) rv p H D S → Rel (ctx P w F ρ p H nt) S w' a.tmps → a.defers = [] →
      a.defers = [] ∧ ∃ v, (results fn a.tmps).run P w' = .ok v w' ∧ ∃ v', (Ending.returned v) = .returned v' ∧ ∃ (d : DV) (U : List (Nat × Option Blk)) (F' : Nat → Prop) (ρ' : Nat → Place), D d U ∧
        Tr w F ρ (· < p) (lkO H) w' F' ρ' (· < p + 16) (updB (lkO H) U) ∧ RepV w' F' ρ' (· < p + 16) d v' := by
    rintro S a w' ⟨M, ds1, ds, U, hres, hq, hok, htl, htH, hD⟩ hr hd
    obtain ⟨hsz, F1, ρ1, T1, ht⟩ := hr
    obtain ⟨us, g1, g2, g3⟩ := run_results (P := P) (tm := a.tmps) T1.H ht rv ds1 hres
    obtain ⟨F', ρ', T, hrep⟩ := tell_core M (fun n hn => Nat.lt_of_lt_of_le hn hq) hok htH T1
    obtain ⟨hll, hle⟩ := htl.at
    refine ⟨hd, (if h : us.toArray.size = 1 then us.toArray[0] else .tuple us.toArray), ?_, _, rfl, retV ds, U, F', ρ', hD, ?_, ?_⟩
    · rw [results_eq, Array.mapM_eq_mapM_toList, h5]
      simp only [Sem.run_bind, Sem.run_map, g1, Result.andThen_ok, Sem.run_pure]
    · rw [lkO_append] at T
      exact T
    · refine retV_rep (by simp; omega) (fun i d v hd hv => ?_)
      obtain ⟨x, hx⟩ := other hll hd
      exact hrep x d v (hle i x d hx hd) (g3 i x v hx (by simpa using hv))
  refine W_sound (C := ctx P w F ρ p H nt) (df := []) hP sc c _ _ _ _ w _ h6 h7 (hw w F ρ) ?_ rfl ?_ ?_ ?_
  · refine ⟨?_, F, ρ, Tr.refl HH, fun t d hd => ?_⟩
    · show (vs ++ Array.replicate (fn.ntmps - vs.size) undef).size = nt
      simp only [Array.size_append, Array.size_replicate]
      omega
    · have hd' : lkO (slots az 0) t = some d := hd
      rw [slots_at] at hd'
      simp only [Nat.zero_le, if_true, Nat.sub_zero] at hd'
      have hlt : t < vs.size := by rw [← hl]; exact (List.getElem?_eq_some_iff.1 hd').1
      refine ⟨vs[t], ?_, ha t d _ hd' (by simp [hlt])⟩
      rw [Array.getElem?_append_left hlt]
      simp [hlt]
  · intro S a w' h9 h10 h11; exact hret S a w' h9 h10 h11
  · intro j S a w' h9; exact h9.elim
  · intro S a w' h9 h10 h11; exact hret S a w' h9 h10 h11

end Go.Fv
/- ABSTRACT VALUES AND STATES (25): lemmas by which a walk is reckoned. -/
namespace Go.Fv

def valW (d : OD) (S : St) (dst : Option Nat) (ka : St → Prop) : Prop := match d with
  | some d => ka (St.set ⟨S.T, S.H, S.nx + 16⟩ dst (some d))
  | none => False
def effW (e : Option Eff) (S : St) (dst : Option Nat) (ka : St → Prop) : Prop := match e with
  | some eff => ka (St.set ⟨S.T, eff.U ++ S.H, S.nx + 16⟩ dst eff.d)
  | none => False

section
variable {C : Ctx} {S S' : St} {K ka : St → Prop} {kc : DV → St → Prop} {dst : Option Nat} {os : List SO} {op : SOp} {N : St → Prop} {X : Nat → St → Prop} {Q : St → Prop} {A B : Prop}

theorem W_skip : W C Q .skip N X S = N S := rfl
theorem W_rg {l : List SO} : W C Q (.rg l) N X S = opsW C N l S := rfl
theorem W_dr {l : List SO} {af : List (List Nat)} : W C Q (.dr l af) N X S = drW C N l af S := rfl
theorem W_seq {a b : SC} : W C Q (.seq a b) N X S = W C Q a (W C Q b N X) X S := rfl
/-- Two ways to go on. -/
def condS (x : OD) (A B : St → Prop) (S : St) : Prop := condW x (A S) (B S)
theorem W_cond {c : O} {a b : SC} : W C Q (.cond c a b) N X S = condS (S.ev c) (W C Q a N X) (W C Q b N X) S := rfl
def blkX (id : Nat) (N : St → Prop) (X : Nat → St → Prop) (j : Nat) (S : St) : Prop := if j = id then N S else X j S
theorem W_block {id : Nat} {a : SC} : W C Q (.block id a) N X S = W C Q a N (blkX id N X) S := rfl
def loopB (C : Ctx) (Q : St → Prop) (a : SC) (X : Nat → St → Prop) (N : St → Prop) (S : St) : Prop := W C Q a N X S
theorem W_loop {a : SC} : W C Q (.loop a) N X S = LoopW C (loopB C Q a X) S := rfl
theorem W_exit {id : Nat} : W C Q (.exit id) N X S = X id S := rfl
theorem W_ret : W C Q .ret N X S = Q S := rfl
def opsK (C : Ctx) (K : St → Prop) (os : List SO) (dst : Option Nat) (d : DV) (S : St) : Prop := opsW C K os (S.set dst (some d))
def gdS (x : OD) (b : Bool) (A B : St → Prop) (S : St) : Prop := gdW x b (A S) (B S)
def doS (C : Ctx) (dst : Option Nat) (kc : DV → St → Prop) (ka : St → Prop) (o : SOp) (S : St) : Prop := doW C S dst kc ka o
def skS (dst : Option Nat) (ka : St → Prop) (S : St) : Prop := ka (St.set ⟨S.T, S.H, S.nx + 16⟩ dst (some (.tup [])))

theorem opsW_nil : opsW C K [] S = K S := rfl
theorem opsW_go {o : SOp} : opsW C K (⟨dst, o, none⟩ :: os) S = doW C S dst (opsK C K os dst) (opsW C K os) o := rfl
theorem opsW_gd {o : SOp} {t : Nat} {b : Bool} : opsW C K (⟨dst, o, some (t, b)⟩ :: os) S =
    gdS (S.get t) b (doS C dst (opsK C K os dst) (opsW C K os) o) (skS dst (opsW C K os)) S := rfl

theorem gdS_tt {A B : St → Prop} : gdS (some (.bool true)) true A B S = A S := by simp [gdS, gdW]
theorem gdS_ff {A B : St → Prop} : gdS (some (.bool false)) false A B S = A S := by simp [gdS, gdW]
theorem gdS_tf {A B : St → Prop} : gdS (some (.bool true)) false A B S = B S := by simp [gdS, gdW]
theorem gdS_ft {A B : St → Prop} : gdS (some (.bool false)) true A B S = B S := by simp [gdS, gdW]
theorem gdS_t {A B : St → Prop} {y : Bool} (h1 : y = true → A S) (h2 : y = false → B S) : gdS (some (.bool y)) true A B S := .inl ⟨y, rfl, h1, by intro h; exact h2 (by simpa using h)⟩
theorem gdS_f {A B : St → Prop} {y : Bool} (h1 : y = false → A S) (h2 : y = true → B S) : gdS (some (.bool y)) false A B S := .inl ⟨y, rfl, h1, by intro h; exact h2 (by simpa using h)⟩
theorem gdS_u {A B : St → Prop} {b : Bool} : gdS (some (.tup [])) b A B S = B S := by simp [gdS, gdW]
theorem condS_t {A B : St → Prop} : condS (some (.bool true)) A B S = A S := by simp [condS, condW]
theorem condS_f {A B : St → Prop} : condS (some (.bool false)) A B S = B S := by simp [condS, condW]
theorem condS_i {A B : St → Prop} {y : Bool} (h1 : y = true → A S) (h2 : y = false → B S) : condS (some (.bool y)) A B S := ⟨y, rfl, h1, h2⟩
theorem condS_d {A B : St → Prop} {p : Prop} [Decidable p] (h1 : p → A S) (h2 : ¬ p → B S) : condS (some (.bool (decide p))) A B S := ⟨decide p, rfl, fun h => h1 (by simpa using h), fun h => h2 (by simpa using h)⟩
theorem gdS_td {A B : St → Prop} {p : Prop} [Decidable p] (h1 : p → A S) (h2 : ¬ p → B S) : gdS (some (.bool (decide p))) true A B S := gdS_t (fun h => h1 (by simpa using h)) (fun h => h2 (by simpa using h))
theorem gdS_fd {A B : St → Prop} {p : Prop} [Decidable p] (h1 : ¬ p → A S) (h2 : p → B S) : gdS (some (.bool (decide p))) false A B S := gdS_f (fun h => h1 (by simpa using h)) (fun h => h2 (by simpa using h))
theorem doS_eq {o : SOp} : doS C dst kc ka o S = doW C S dst kc ka o := rfl
theorem skS_mk {T : List (Nat × Option DV)} {H : List (Nat × Option Blk)} {nx : Nat} : skS dst ka ⟨T, H, nx⟩ = ka (St.set ⟨T, H, nx + 16⟩ dst (some (.tup []))) := rfl
theorem opsK_eq {d : DV} : opsK C K os dst d S = opsW C K os (S.set dst (some d)) := rfl
theorem blkX_eq {id j : Nat} : blkX id N X j S = if j = id then N S else X j S := rfl
theorem loopB_eq {a : SC} : loopB C Q a X N S = W C Q a N X S := rfl

theorem valW_some {d : DV} : valW (some d) S dst ka = ka (St.set ⟨S.T, S.H, S.nx + 16⟩ dst (some d)) := rfl
theorem effW_some {d : OD} {U : List (Nat × Option Blk)} : effW (some ⟨d, U⟩) S dst ka = ka (St.set ⟨S.T, U ++ S.H, S.nx + 16⟩ dst d) := rfl

theorem valW_eq {o : OD} : (match valE o with
    | some eff => ka (St.set ⟨S.T, eff.U ++ S.H, S.nx + 16⟩ dst eff.d)
    | none => False) = valW o S dst ka := by cases o <;> rfl

theorem do_mv {x : O} : doW C S dst kc ka (.mv x) = ka (St.set ⟨S.T, S.H, S.nx + 16⟩ dst (S.ev x)) := rfl
theorem do_pick {c a b : O} : doW C S dst kc ka (.pick c a b) = valW (pickA (S.ev c) (S.ev a) (S.ev b)) S dst ka := valW_eq
theorem do_alloc {t : Nat} : doW C S dst kc ka (.alloc t) = effW (allocA (tiOf C.P t) S.nx) S dst ka := rfl
theorem do_box {t : Nat} {x : O} : doW C S dst kc ka (.box t x) = effW (boxA S.nx (S.ev x)) S dst ka := rfl
theorem do_build {t : Nat} {ps : List (Nat × O)} : doW C S dst kc ka (.build t ps) = valW (buildA (tiOf C.P) t (ps.map fun p => (p.1, S.ev p.2))) S dst ka := valW_eq
theorem do_bsl {t n : Nat} {ps : List (Nat × O)} : doW C S dst kc ka (.bsl t n ps) = effW (bslA (tiOf C.P) t n S.nx (ps.map fun p => (p.1, S.ev p.2))) S dst ka := rfl
theorem do_load {t : Nat} {a : O} : doW C S dst kc ka (.load t a) = valW (loadA (tiOf C.P t) S.blk (S.ev a)) S dst ka := valW_eq
theorem do_store {t : Nat} {a x : O} : doW C S dst kc ka (.store t a x) = effW (storeA (tiOf C.P t) S.blk (S.ev a) (S.ev x)) S dst ka := rfl
theorem do_nilck {x : O} : doW C S dst kc ka (.nilck x) = valW (nilckA (S.ev x)) S dst ka := valW_eq
theorem do_bin {o : BinOp} {t : Nat} {x y : O} : doW C S dst kc ka (.bin o t x y) = valW (binA (tiOf C.P) o t (S.ev x) (S.ev y)) S dst ka := valW_eq
theorem do_un {o : UnOp} {x : O} : doW C S dst kc ka (.un o x) = valW (unA o (S.ev x)) S dst ka := valW_eq
theorem do_conv {s d : Nat} {x : O} : doW C S dst kc ka (.conv s d x) = valW (convA (tiOf C.P s) (tiOf C.P d) (S.ev x)) S dst ka := valW_eq
def mkfnA (f : Nat) : Option (List DV) → Option (List DV) → OD
  | some a, some c => some (.fn f a c)
  | _, _ => none
theorem do_mkfn {f : Nat} {a c : List O} : doW C S dst kc ka (.mkfn f a c) = valW (mkfnA f (allD (a.map S.ev)) (allD (c.map S.ev))) S dst ka := by
  simp only [doW, actA]
  cases allD (a.map S.ev) with
  | none => rfl
  | some a' => cases allD (c.map S.ev) <;> rfl
theorem do_mkmap {t : Nat} : doW C S dst kc ka (.mkmap t) = ka (St.set ⟨S.T, (S.nx, some (.map [])) :: S.H, S.nx + 16⟩ dst (some (.mp S.nx))) := rfl
theorem do_mksl {t : Nat} {l c : O} : doW C S dst kc ka (.mksl t l c) = effW (mkslA (tiOf C.P) t S.nx (S.ev l) (S.ev c)) S dst ka := rfl
theorem do_slice {t : Nat} {x : O} {lo hi mx : Option O} : doW C S dst kc ka (.slice t x lo hi mx) = valW (sliceA (tiOf C.P) t (S.ev x) (lo.map S.ev) (hi.map S.ev) (mx.map S.ev)) S dst ka := valW_eq
theorem do_faddr {t : Nat} {x : O} {f : Nat} : doW C S dst kc ka (.faddr t x f) = valW (faddrA (tiOf C.P t) f (S.ev x)) S dst ka := valW_eq
theorem do_iaddr {t : Nat} {x i : O} : doW C S dst kc ka (.iaddr t x i) = valW (iaddrA (tiOf C.P) t (S.ev x) (S.ev i)) S dst ka := valW_eq
theorem do_lkp {t : Nat} {x i : O} {ok : Bool} : doW C S dst kc ka (.lkp t x i ok) = valW (lkpA (tiOf C.P) S.blk t ok (S.ev x) (S.ev i)) S dst ka := valW_eq
theorem do_mupd {t : Nat} {m k v : O} : doW C S dst kc ka (.mupd t m k v) = effW (mupdA (tiOf C.P) S.blk t (S.ev m) (S.ev k) (S.ev v)) S dst ka := rfl
theorem do_ext {x : O} {i : Nat} : doW C S dst kc ka (.ext x i) = valW (extA i (S.ev x)) S dst ka := valW_eq
theorem do_len {t : Nat} {x : O} : doW C S dst kc ka (.len t x) = valW (lenA (tiOf C.P) S.blk t (S.ev x)) S dst ka := valW_eq
theorem do_cap {t : Nat} {x : O} : doW C S dst kc ka (.cap t x) = valW (capA (tiOf C.P) t (S.ev x)) S dst ka := valW_eq
theorem do_app {t u : Nat} {x y : O} : doW C S dst kc ka (.app t u x y) = effW (appA (tiOf C.P) S.blk t u S.nx (S.ev x) (S.ev y)) S dst ka := rfl
theorem do_copy {t u : Nat} {x y : O} : doW C S dst kc ka (.copy t u x y) = effW (copyA (tiOf C.P) S.blk t u (S.ev x) (S.ev y)) S dst ka := rfl
theorem do_clear {t : Nat} {x : O} : doW C S dst kc ka (.clear t x) = effW (clearA (tiOf C.P) S.blk t (S.ev x)) S dst ka := rfl
theorem do_max {x y : O} : doW C S dst kc ka (.max x y) = valW (maxA (S.ev x) (S.ev y)) S dst ka := valW_eq
theorem do_min {x y : O} : doW C S dst kc ka (.min x y) = valW (minA (S.ev x) (S.ev y)) S dst ka := valW_eq
theorem do_call {f : O} {args : List O} : doW C S dst kc ka (.call f args) = callW C (S.ev f) (allD (args.map S.ev)) S kc := rfl

theorem set_some {T : List (Nat × Option DV)} {H : List (Nat × Option Blk)} {nx t : Nat} {d : OD} : St.set ⟨T, H, nx⟩ (some t) d = ⟨(t, d) :: T, H, nx⟩ := rfl
theorem set_none {d : OD} : St.set S none d = S := rfl
theorem ev_t {n : Nat} : S.ev (.t n) = S.get n := rfl
theorem ev_c {d : DV} : S.ev (.c d) = some d := rfl
theorem get_mk {T : List (Nat × Option DV)} {H : List (Nat × Option Blk)} {nx t : Nat} : St.get ⟨T, H, nx⟩ t = lkO T t := rfl
theorem blk_mk {T : List (Nat × Option DV)} {H : List (Nat × Option Blk)} {nx t : Nat} : St.blk ⟨T, H, nx⟩ t = lkO H t := rfl
theorem lkO_hit {α : Type} {t : Nat} {v : Option α} {r : List (Nat × Option α)} : lkO ((t, v) :: r) t = v := by simp [lkO]
theorem allD_nil : allD [] = some [] := rfl
theorem allD_cons {d : DV} {r : List OD} : allD (some d :: r) = (allD r).map (d :: ·) := rfl
theorem slots_nil {i : Nat} : slots [] i = [] := rfl
theorem slots_cons {a : DV} {r : List DV} {i : Nat} : slots (a :: r) i = (i, some a) :: slots r (i + 1) := rfl
end

/-- A contract of a function that is passed no own block, and makes none. -/
abbrev Pure (P : Program) (f : FuncId) (az : List DV) (d : DV) : Prop := Spec P f az 0 [] fun d' U => d' = d ∧ U = []

theorem callR_pure {P : Program} {f : FuncId} {az : List DV} {d : DV} (hs : Pure P f az d) {first caps args : List DV} (h : Nat → Option Blk) (nb : Nat) (he : az = first ++ args ++ caps) (ha : plainL az = true) (hd : plain d = true) :
    CallR P (.fn f first caps) args h nb fun d' U => d' = d ∧ U = [] := by
  refine hs.callR [] nb rfl List.Pairwise.nil rfl ?_ trivial ?_
  · rw [plainL_ren az ha, he]
  · rintro d' U ⟨rfl, rfl⟩
    exact ⟨d', [], plain_ren d' hd, rfl, rfl, rfl⟩

theorem callW_pure {C : Ctx} {P : Program} {f : FuncId} {az : List DV} {d : DV} {S : St} {k : DV → St → Prop} (hP : C.P = P) (hs : Pure P f az d) (ha : plainL az = true) (hd : plain d = true) (hk : k d ⟨S.T, S.H, S.nx + 16⟩) :
    callW C (some (.fn f [] [])) (some az) S k := by
  subst hP
  refine callW_of (callR_pure hs S.blk S.nx (by simp) ha hd) ?_
  rintro d' U ⟨rfl, rfl⟩
  exact hk

theorem callFx_pure {P : Program} {f : FuncId} {az : List DV} {d : DV} {h : Nat → Option Blk} {nb : Nat} (hs : Pure P f az d) (ha : plainL az = true) (hd : plain d = true) : CallFx P (.fn f [] []) az h nb d [] [] :=
  callFx_of fun h2 _ => callR_pure hs h2 nb (by simp) ha hd

theorem FnOk.of {P : Program} {f : FuncId} {sc : SC} {nt na : Nat} {rv : List ResultVar} {fn : Func} (h1 : P.funcs[f]? = some fn) (h2 : fn.body.map strip = some (erase sc)) (h3 : fn.ntmps = nt) (h4 : fn.results.toList = rv)
    (h5 : (fn.name == "runtime.NumGoroutine") = false) (h6 : dstOk nt sc = true) (h7 : na ≤ nt) (h8 : P.follows .mixedOrders = true) : FnOk P f sc nt na rv := by
  obtain ⟨c, hc, hs⟩ := Option.map_eq_some_iff.1 h2
  exact ⟨⟨fn, c, h1, hc, h5, h3, h4, hs, h6, h7⟩, h8⟩

/-- A contract from a walk, what it began with out of sight. -/
theorem Spec.walk {P : Program} {f : FuncId} {sc : SC} {nt : Nat} {rv : List ResultVar} {az : List DV} {p : Nat} {H : List (Nat × Option Blk)} {D : DV → List (Nat × Option Blk) → Prop}
    (hf : FnOk P f sc nt az.length rv)
    (hw : ∀ (C : Ctx) (Q : St → Prop), C.P = P → (∀ n, C.N0 n → n < p) → (∀ S, retQ C rv p H D S → Q S) → W C Q sc Q (fun _ _ => False) ⟨slots az 0, H, p⟩) : Spec P f az p H D :=
  Spec.intro hf fun _ _ _ => hw _ _ rfl (fun _ hn => hn) fun _ h => h

/-- A return of values without names, where no own block was passed or is left. -/
theorem retQ_pure {C : Ctx} {rv : List ResultVar} {D : DV → List (Nat × Option Blk) → Prop} {S : St} (ds : List DV)
    (hres : resD (tiOf C.P) S rv = some ds) (hp : plainL ds = true) (hD : D (retV ds) []) : retQ C rv 0 [] D S :=
  ⟨⟨0, [], [], []⟩, ds, ds, [], hres, Nat.le_refl _, by simp [Nm.ok], TlL.same hp, trivial, hD⟩

theorem min3264 : Min.min 32 64 = (32 : Nat) := rfl

end Go.Fv
/- MADE BY PROGRAM (wip/tools/codes.py). -/
namespace Go.Fv
open Go.Proofs
def c55 : SC :=
(.seq
(.rg [⟨(some 4), (.mv (.c (.int .i64 0))), none⟩, ⟨(some 5), (.mv (.c (.bool false))), none⟩])
(.seq
(.rg [⟨(some 10), (.mv (.t 0)), none⟩, ⟨(some 11), (.bin .lss 2 (.t 10) (.c (.int .i64 0))), none⟩, ⟨(some 12), (.mv (.t 1)), none⟩, ⟨(some 13), (.bin .lss 2 (.t 12) (.c (.int .i64 0))), none⟩, ⟨(some 14), (.bin .neq 4 (.t 11) (.t 13)), none⟩, ⟨(some 6), (.mv (.t 14)), none⟩])
(.seq
(.rg [⟨(some 7), (.mv (.c (.int .u64 9223372036854775807))), none⟩])
(.seq
(.seq
(.rg [⟨(some 15), (.mv (.t 6)), none⟩])
(.cond (.t 15)
(.rg [⟨(some 16), (.mv (.t 7)), none⟩, ⟨(some 17), (.bin .add 50 (.t 16) (.c (.int .u64 1))), none⟩, ⟨(some 7), (.mv (.t 17)), none⟩])
.skip))
(.seq
(.rg [⟨(some 19), (.mv (.t 0)), none⟩, ⟨(some 20), (.call (.c (.fn 75 [] [])) [(.t 19)]), none⟩, ⟨(some 21), (.mv (.t 1)), none⟩, ⟨(some 22), (.call (.c (.fn 75 [] [])) [(.t 21)]), none⟩, ⟨(some 23), (.call (.c (.fn 74 [] [])) [(.t 20), (.t 22)]), none⟩, ⟨(some 18), (.mv (.t 23)), none⟩, ⟨(some 24), (.ext (.t 18) 0), none⟩, ⟨(some 25), (.ext (.t 18) 1), none⟩, ⟨(some 8), (.mv (.t 24)), none⟩, ⟨(some 9), (.mv (.t 25)), none⟩])
(.seq
(.block 0
(.seq
(.rg [⟨(some 27), (.mv (.t 9)), none⟩, ⟨(some 28), (.un .not (.t 27)), none⟩, ⟨(some 29), (.mv (.t 28)), none⟩, ⟨(some 30), (.mv (.t 8)), (some (29, false))⟩, ⟨(some 31), (.mv (.t 7)), (some (29, false))⟩, ⟨(some 32), (.bin .gtr 50 (.t 30) (.t 31)), (some (29, false))⟩, ⟨(some 33), (.pick (.t 29) (.c (.bool true)) (.t 32)), none⟩, ⟨(some 26), (.mv (.t 33)), none⟩])
(.cond (.t 26)
(.seq
(.rg [⟨(some 34), (.mv (.t 6)), none⟩, ⟨(some 35), (.call (.c (.fn 76 [] [])) [(.t 34)]), none⟩, ⟨(some 36), (.ext (.t 35) 0), none⟩, ⟨(some 37), (.ext (.t 35) 1), none⟩, ⟨(some 4), (.mv (.t 36)), none⟩, ⟨(some 5), (.mv (.t 37)), none⟩])
.ret)
(.seq
(.rg [⟨(some 39), (.mv (.t 6)), none⟩, ⟨(some 38), (.mv (.t 39)), none⟩])
(.cond (.t 38)
(.seq
(.rg [⟨(some 40), (.mv (.t 8)), none⟩, ⟨(some 41), (.un .neg (.t 40)), none⟩, ⟨(some 42), (.conv 50 2 (.t 41)), none⟩, ⟨(some 4), (.mv (.t 42)), none⟩, ⟨(some 5), (.mv (.c (.bool true))), none⟩])
.ret)
.skip)))))
(.seq
(.rg [⟨(some 43), (.mv (.t 8)), none⟩, ⟨(some 44), (.conv 50 2 (.t 43)), none⟩, ⟨(some 4), (.mv (.t 44)), none⟩, ⟨(some 5), (.mv (.c (.bool true))), none⟩])
.ret)))))))
theorem ok55 : FnOk Try.prog 55 c55 45 2 [(.tmp 4), (.tmp 5)] := .of Try.func55 (by kernel_rfl) (by kernel_rfl) (by kernel_rfl) (by kernel_rfl) (by kernel_rfl) (by decide) (by kernel_rfl)
def c56 : SC :=
(.seq
(.rg [⟨(some 4), (.mv (.c (.int .i64 0))), none⟩, ⟨(some 5), (.mv (.c (.bool false))), none⟩])
(.seq
(.rg [⟨(some 7), (.mv (.t 0)), none⟩, ⟨(some 8), (.conv 2 50 (.t 7)), none⟩, ⟨(some 9), (.mv (.t 1)), none⟩, ⟨(some 10), (.conv 2 50 (.t 9)), none⟩, ⟨(some 11), (.bin .add 50 (.t 8) (.t 10)), none⟩, ⟨(some 12), (.conv 50 2 (.t 11)), none⟩, ⟨(some 6), (.mv (.t 12)), none⟩])
(.seq
(.seq
(.rg [⟨(some 13), (.mv (.t 0)), none⟩, ⟨(some 14), (.mv (.t 6)), none⟩, ⟨(some 15), (.bin .xor 2 (.t 13) (.t 14)), none⟩, ⟨(some 16), (.mv (.t 1)), none⟩, ⟨(some 17), (.mv (.t 6)), none⟩, ⟨(some 18), (.bin .xor 2 (.t 16) (.t 17)), none⟩, ⟨(some 19), (.bin .and 2 (.t 15) (.t 18)), none⟩, ⟨(some 20), (.bin .lss 2 (.t 19) (.c (.int .i64 0))), none⟩])
(.cond (.t 20)
(.seq
(.rg [⟨(some 21), (.mv (.t 0)), none⟩, ⟨(some 22), (.bin .lss 2 (.t 21) (.c (.int .i64 0))), none⟩, ⟨(some 23), (.call (.c (.fn 76 [] [])) [(.t 22)]), none⟩, ⟨(some 24), (.ext (.t 23) 0), none⟩, ⟨(some 25), (.ext (.t 23) 1), none⟩, ⟨(some 4), (.mv (.t 24)), none⟩, ⟨(some 5), (.mv (.t 25)), none⟩])
.ret)
.skip))
(.seq
(.rg [⟨(some 26), (.mv (.t 6)), none⟩, ⟨(some 4), (.mv (.t 26)), none⟩, ⟨(some 5), (.mv (.c (.bool true))), none⟩])
.ret))))
theorem ok56 : FnOk Try.prog 56 c56 27 2 [(.tmp 4), (.tmp 5)] := .of Try.func56 (by kernel_rfl) (by kernel_rfl) (by kernel_rfl) (by kernel_rfl) (by kernel_rfl) (by decide) (by kernel_rfl)
def c58 : SC :=
(.seq
(.rg [⟨(some 4), (.mv (.c (.int .i64 0))), none⟩, ⟨(some 5), (.mv (.c (.bool false))), none⟩])
(.seq
(.seq
(.rg [⟨(some 7), (.mv (.t 1)), none⟩, ⟨(some 8), (.bin .lss 2 (.t 7) (.c (.int .i64 1))), none⟩, ⟨(some 9), (.mv (.t 8)), none⟩, ⟨(some 10), (.mv (.t 0)), (some (9, false))⟩, ⟨(some 11), (.bin .lss 2 (.t 10) (.c (.int .i64 0))), (some (9, false))⟩, ⟨(some 12), (.pick (.t 9) (.c (.bool true)) (.t 11)), none⟩])
(.cond (.t 12)
(.seq
(.rg [⟨(some 4), (.mv (.c (.int .i64 0))), none⟩, ⟨(some 5), (.mv (.c (.bool false))), none⟩])
.ret)
.skip))
(.seq
(.rg [⟨(some 13), (.mv (.t 0)), none⟩, ⟨(some 14), (.mv (.t 1)), none⟩, ⟨(some 15), (.bin .quo 2 (.t 13) (.t 14)), none⟩, ⟨(some 6), (.mv (.t 15)), none⟩])
(.seq
(.seq
(.rg [⟨(some 16), (.mv (.t 0)), none⟩, ⟨(some 17), (.mv (.t 1)), none⟩, ⟨(some 18), (.bin .rem 2 (.t 16) (.t 17)), none⟩, ⟨(some 19), (.bin .gtr 2 (.t 18) (.c (.int .i64 0))), none⟩])
(.cond (.t 19)
(.rg [⟨(some 20), (.mv (.t 6)), none⟩, ⟨(some 21), (.bin .add 2 (.t 20) (.c (.int .i64 1))), none⟩, ⟨(some 6), (.mv (.t 21)), none⟩])
.skip))
(.seq
(.rg [⟨(some 22), (.mv (.t 6)), none⟩, ⟨(some 4), (.mv (.t 22)), none⟩, ⟨(some 5), (.mv (.c (.bool true))), none⟩])
.ret)))))
theorem ok58 : FnOk Try.prog 58 c58 23 2 [(.tmp 4), (.tmp 5)] := .of Try.func58 (by kernel_rfl) (by kernel_rfl) (by kernel_rfl) (by kernel_rfl) (by kernel_rfl) (by decide) (by kernel_rfl)
def c74 : SC :=
(.seq
(.rg [⟨(some 4), (.mv (.c (.int .u64 0))), none⟩, ⟨(some 5), (.mv (.c (.bool false))), none⟩])
(.seq
(.rg [⟨(some 13), (.mv (.t 0)), none⟩, ⟨(some 14), (.bin .shr 50 (.t 13) (.c (.int .u64 32))), none⟩, ⟨(some 15), (.mv (.t 0)), none⟩, ⟨(some 16), (.conv 50 126 (.t 15)), none⟩, ⟨(some 17), (.conv 126 50 (.t 16)), none⟩, ⟨(some 6), (.mv (.t 14)), none⟩, ⟨(some 7), (.mv (.t 17)), none⟩])
(.seq
(.rg [⟨(some 18), (.mv (.t 1)), none⟩, ⟨(some 19), (.bin .shr 50 (.t 18) (.c (.int .u64 32))), none⟩, ⟨(some 20), (.mv (.t 1)), none⟩, ⟨(some 21), (.conv 50 126 (.t 20)), none⟩, ⟨(some 22), (.conv 126 50 (.t 21)), none⟩, ⟨(some 8), (.mv (.t 19)), none⟩, ⟨(some 9), (.mv (.t 22)), none⟩])
(.seq
(.rg [⟨(some 23), (.mv (.t 6)), none⟩, ⟨(some 24), (.mv (.t 9)), none⟩, ⟨(some 25), (.bin .mul 50 (.t 23) (.t 24)), none⟩, ⟨(some 26), (.mv (.t 7)), none⟩, ⟨(some 27), (.mv (.t 8)), none⟩, ⟨(some 28), (.bin .mul 50 (.t 26) (.t 27)), none⟩, ⟨(some 29), (.bin .or 50 (.t 25) (.t 28)), none⟩, ⟨(some 10), (.mv (.t 29)), none⟩])
(.seq
(.seq
(.rg [⟨(some 30), (.mv (.t 6)), none⟩, ⟨(some 31), (.bin .gtr 50 (.t 30) (.c (.int .u64 0))), none⟩, ⟨(some 32), (.mv (.t 31)), none⟩, ⟨(some 33), (.mv (.t 8)), (some (32, true))⟩, ⟨(some 34), (.bin .gtr 50 (.t 33) (.c (.int .u64 0))), (some (32, true))⟩, ⟨(some 35), (.pick (.t 32) (.t 34) (.c (.bool false))), none⟩, ⟨(some 36), (.mv (.t 35)), none⟩, ⟨(some 37), (.mv (.t 10)), (some (36, false))⟩, ⟨(some 38), (.bin .shr 50 (.t 37) (.c (.int .u64 32))), (some (36, false))⟩, ⟨(some 39), (.bin .gtr 50 (.t 38) (.c (.int .u64 0))), (some (36, false))⟩, ⟨(some 40), (.pick (.t 36) (.c (.bool true)) (.t 39)), none⟩])
(.cond (.t 40)
(.seq
(.rg [⟨(some 4), (.mv (.c (.int .u64 0))), none⟩, ⟨(some 5), (.mv (.c (.bool false))), none⟩])
.ret)
.skip))
(.seq
(.rg [⟨(some 41), (.mv (.t 7)), none⟩, ⟨(some 42), (.mv (.t 9)), none⟩, ⟨(some 43), (.bin .mul 50 (.t 41) (.t 42)), none⟩, ⟨(some 11), (.mv (.t 43)), none⟩])
(.seq
(.rg [⟨(some 44), (.mv (.t 11)), none⟩, ⟨(some 45), (.mv (.t 10)), none⟩, ⟨(some 46), (.bin .shl 50 (.t 45) (.c (.int .u64 32))), none⟩, ⟨(some 47), (.bin .add 50 (.t 44) (.t 46)), none⟩, ⟨(some 12), (.mv (.t 47)), none⟩])
(.seq
(.rg [⟨(some 48), (.mv (.t 12)), none⟩, ⟨(some 49), (.mv (.t 12)), none⟩, ⟨(some 50), (.mv (.t 11)), none⟩, ⟨(some 51), (.bin .geq 50 (.t 49) (.t 50)), none⟩, ⟨(some 4), (.mv (.t 48)), none⟩, ⟨(some 5), (.mv (.t 51)), none⟩])
.ret))))))))
theorem ok74 : FnOk Try.prog 74 c74 52 2 [(.tmp 4), (.tmp 5)] := .of Try.func74 (by kernel_rfl) (by kernel_rfl) (by kernel_rfl) (by kernel_rfl) (by kernel_rfl) (by decide) (by kernel_rfl)
def c75 : SC :=
(.seq
(.rg [⟨(some 2), (.mv (.c (.int .u64 0))), none⟩])
(.seq
(.seq
(.rg [⟨(some 3), (.mv (.t 0)), none⟩, ⟨(some 4), (.bin .lss 2 (.t 3) (.c (.int .i64 0))), none⟩])
(.cond (.t 4)
(.seq
(.rg [⟨(some 5), (.mv (.t 0)), none⟩, ⟨(some 6), (.conv 2 50 (.t 5)), none⟩, ⟨(some 7), (.un .neg (.t 6)), none⟩, ⟨(some 2), (.mv (.t 7)), none⟩])
.ret)
.skip))
(.seq
(.rg [⟨(some 8), (.mv (.t 0)), none⟩, ⟨(some 9), (.conv 2 50 (.t 8)), none⟩, ⟨(some 2), (.mv (.t 9)), none⟩])
.ret)))
theorem ok75 : FnOk Try.prog 75 c75 10 1 [(.tmp 2)] := .of Try.func75 (by kernel_rfl) (by kernel_rfl) (by kernel_rfl) (by kernel_rfl) (by kernel_rfl) (by decide) (by kernel_rfl)
def c76 : SC :=
(.seq
(.rg [⟨(some 2), (.mv (.c (.int .i64 0))), none⟩, ⟨(some 3), (.mv (.c (.bool false))), none⟩])
(.seq
(.seq
(.rg [⟨(some 4), (.mv (.t 0)), none⟩])
(.cond (.t 4)
(.seq
(.rg [⟨(some 2), (.mv (.c (.int .i64 (-9223372036854775808)))), none⟩, ⟨(some 3), (.mv (.c (.bool false))), none⟩])
.ret)
.skip))
(.seq
(.rg [⟨(some 2), (.mv (.c (.int .i64 9223372036854775807))), none⟩, ⟨(some 3), (.mv (.c (.bool false))), none⟩])
.ret)))
theorem ok76 : FnOk Try.prog 76 c76 5 1 [(.tmp 2), (.tmp 3)] := .of Try.func76 (by kernel_rfl) (by kernel_rfl) (by kernel_rfl) (by kernel_rfl) (by kernel_rfl) (by decide) (by kernel_rfl)
end Go.Fv
/- MADE BY PROGRAM (wip/tools/codes.py). -/
namespace Go.Fv
open Go.Proofs
theorem ty2 : tiOf Try.prog 2 = (some ⟨(.int .i64), 1, 8, true, (.int .i64 0)⟩) := by kernel_rfl
theorem ty3 : tiOf Try.prog 3 = (some ⟨(.int .i64), 1, 8, true, (.int .i64 0)⟩) := by kernel_rfl
theorem ty4 : tiOf Try.prog 4 = (some ⟨.bool, 1, 1, true, (.bool false)⟩) := by kernel_rfl
theorem ty5 : tiOf Try.prog 5 = (some ⟨(.int .u8), 1, 1, true, (.int .u8 0)⟩) := by kernel_rfl
theorem ty22 : tiOf Try.prog 22 = (some ⟨(.slice 5), 1, 24, true, .nilsl⟩) := by kernel_rfl
theorem ty24 : tiOf Try.prog 24 = (some ⟨(.slice 36), 1, 24, true, .nilsl⟩) := by kernel_rfl
theorem ty26 : tiOf Try.prog 26 = (some ⟨(.slice 2), 1, 24, true, .nilsl⟩) := by kernel_rfl
theorem ty34 : tiOf Try.prog 34 = (some ⟨(.slice 60), 1, 24, true, .nilsl⟩) := by kernel_rfl
theorem ty36 : tiOf Try.prog 36 = (some ⟨(.struct [(0, 1), (1, 1), (2, 1), (3, 1), (4, 1), (5, 1)] none), 6, 96, true, (.agg [(.int .i64 0), (.int .i64 0), (.int .i64 0), .nilsl, .nilsl, .nilsl])⟩) := by kernel_rfl
theorem ty44 : tiOf Try.prog 44 = (some ⟨(.slice 73), 1, 24, true, .nilsl⟩) := by kernel_rfl
theorem ty50 : tiOf Try.prog 50 = (some ⟨(.int .u64), 1, 8, true, (.int .u64 0)⟩) := by kernel_rfl
theorem ty60 : tiOf Try.prog 60 = (some ⟨(.struct [(0, 1), (1, 1), (2, 1), (3, 1)] (some [false, false, false, false])), 4, 32, true, (.agg [(.int .i64 0), (.int .i64 0), (.int .i64 0), (.int .i64 0)])⟩) := by kernel_rfl
theorem ty67 : tiOf Try.prog 67 = (some ⟨(.struct [(0, 1), (1, 1)] (some [false, true])), 2, 16, true, (.agg [(.int .i64 0), (.bool false)])⟩) := by kernel_rfl
theorem ty68 : tiOf Try.prog 68 = (some ⟨(.struct [(0, 1), (1, 1)] (some [false, true])), 2, 16, true, (.agg [(.int .i64 0), (.bool false)])⟩) := by kernel_rfl
theorem ty73 : tiOf Try.prog 73 = (some ⟨(.struct [(0, 1), (1, 1)] (some [false, false])), 2, 16, true, (.agg [(.int .i64 0), (.int .i64 0)])⟩) := by kernel_rfl
theorem ty75 : tiOf Try.prog 75 = (some ⟨(.struct [(0, 1), (1, 1), (2, 1)] none), 3, 40, true, (.agg [(.int .i64 0), (.int .i64 0), .nilsl])⟩) := by kernel_rfl
theorem ty79 : tiOf Try.prog 79 = (some ⟨(.struct [(0, 1), (1, 1)] none), 2, 32, true, (.agg [.nilsl, (.int .i64 0)])⟩) := by kernel_rfl
theorem ty90 : tiOf Try.prog 90 = (some ⟨(.map 92 3), 1, 8, true, .nilmp⟩) := by kernel_rfl
theorem ty92 : tiOf Try.prog 92 = (some ⟨(.arr 1 3 (some [false])), 1, 8, true, (.agg [(.int .i64 0)])⟩) := by kernel_rfl
theorem ty94 : tiOf Try.prog 94 = (some ⟨(.slice 3), 1, 24, true, .nilsl⟩) := by kernel_rfl
theorem ty102 : tiOf Try.prog 102 = (some ⟨(.slice 44), 1, 24, true, .nilsl⟩) := by kernel_rfl
theorem ty111 : tiOf Try.prog 111 = (some ⟨(.slice 114), 1, 24, true, .nilsl⟩) := by kernel_rfl
theorem ty114 : tiOf Try.prog 114 = (some ⟨(.struct [(0, 1), (1, 1), (2, 1), (3, 1)] (some [false, false, false, true])), 4, 32, true, (.agg [(.int .i64 0), (.int .i64 0), (.int .i64 0), (.bool false)])⟩) := by kernel_rfl
theorem ty119 : tiOf Try.prog 119 = (some ⟨(.slice 122), 1, 24, true, .nilsl⟩) := by kernel_rfl
theorem ty122 : tiOf Try.prog 122 = (some ⟨(.arr 24 4 (some [true, true, true, true, true, true, true, true, true, true, true, true, true, true, true, true, true, true, true, true, true, true, true, true])), 24, 24, true, (.agg [(.bool false), (.bool false), (.bool false), (.bool false), (.bool false), (.bool false), (.bool false), (.bool false), (.bool false), (.bool false), (.bool false), (.bool false), (.bool false), (.bool false), (.bool false), (.bool false), (.bool false), (.bool false), (.bool false), (.bool false), (.bool false), (.bool false), (.bool false), (.bool false)])⟩) := by kernel_rfl
theorem ty124 : tiOf Try.prog 124 = (some ⟨(.map 122 3), 1, 8, true, .nilmp⟩) := by kernel_rfl
theorem ty126 : tiOf Try.prog 126 = (some ⟨(.int .u32), 1, 4, true, (.int .u32 0)⟩) := by kernel_rfl
theorem ty127 : tiOf Try.prog 127 = (some ⟨(.slice 34), 1, 24, true, .nilsl⟩) := by kernel_rfl
theorem ty130 : tiOf Try.prog 130 = (some ⟨(.struct [(0, 1)] (some [false])), 1, 8, true, (.agg [(.int .i64 0)])⟩) := by kernel_rfl
theorem ty132 : tiOf Try.prog 132 = (some ⟨(.slice 135), 1, 24, true, .nilsl⟩) := by kernel_rfl
theorem ty135 : tiOf Try.prog 135 = (some ⟨(.struct [(0, 1), (1, 1), (2, 1), (3, 1)] (some [false, false, false, true])), 4, 32, true, (.agg [(.int .i64 0), (.int .i64 0), (.int .i64 0), (.bool false)])⟩) := by kernel_rfl
end Go.Fv
/- ABSTRACT VALUES AND STATES (26): numbers of 64 bits. -/
namespace Go.Fv

/-- A number of 64 bits. -/
def i64r (n : Int) : Prop := -9223372036854775808 ≤ n ∧ n ≤ 9223372036854775807

theorem wrap64 (n : Int) : IntKind.i64.wrap n = (BitVec.ofInt 64 n).toInt := by
  rw [BitVec.toInt_ofInt]
  simp only [IntKind.wrap, IntKind.bits, IntKind.signed, Int.bmod]
  simp
  omega
theorem wrapu64 (n : Int) : IntKind.u64.wrap n = ((BitVec.ofInt 64 n).toNat : Int) := by
  rw [BitVec.toNat_ofInt]
  simp only [IntKind.wrap, IntKind.bits, IntKind.signed]
  simp
  omega
theorem ofInt_toNat (x : BitVec 64) : BitVec.ofInt 64 (x.toNat : Int) = x := by
  rw [BitVec.ofInt_natCast, BitVec.ofNat_toNat, BitVec.setWidth_eq]
theorem ofInt_u64 (n : Int) : BitVec.ofInt 64 (IntKind.u64.wrap n) = BitVec.ofInt 64 n := by rw [wrapu64, ofInt_toNat]
theorem ofInt_i64 (n : Int) : BitVec.ofInt 64 (IntKind.i64.wrap n) = BitVec.ofInt 64 n := by rw [wrap64, BitVec.ofInt_toInt]
theorem wrap_toNat (x : BitVec 64) : IntKind.i64.wrap (x.toNat : Int) = x.toInt := by rw [wrap64, ofInt_toNat]
theorem wrap_small {n : Int} (h1 : -9223372036854775808 ≤ n) (h2 : n ≤ 9223372036854775807) : (BitVec.ofInt 64 n).toInt = n := by
  rw [← wrap64]; exact wrap_i64 h1 h2
theorem wrap_iu (n : Int) : IntKind.i64.wrap (IntKind.u64.wrap n) = IntKind.i64.wrap n := by rw [wrap64, wrap64, ofInt_u64]
theorem wrap_iuu (a b : Int) : IntKind.i64.wrap (IntKind.u64.wrap a + IntKind.u64.wrap b) = IntKind.i64.wrap (a + b) := by
  rw [wrap64, wrap64, BitVec.ofInt_add, BitVec.ofInt_add, ofInt_u64, ofInt_u64]
theorem i64r_wrap (n : Int) : i64r (IntKind.i64.wrap n) := by
  unfold i64r
  simp only [IntKind.wrap, IntKind.bits, IntKind.signed]; simp; omega
theorem neg_msb (x : BitVec 64) : x.toInt < 0 ↔ x.msb = true := by
  rw [BitVec.msb_eq_toInt]; simp
theorem bits_i64 : IntKind.i64.bits = 64 := rfl
theorem bits_u64 : IntKind.u64.bits = 64 := rfl
theorem add_neg (a b : Int) (ha : i64r a) (hb : i64r b) :
    (((BitVec.ofInt 64 a ^^^ BitVec.ofInt 64 (a + b)) &&& (BitVec.ofInt 64 b ^^^ BitVec.ofInt 64 (a + b))).toInt < 0) = (9223372036854775807 < a + b ∨ a + b < -9223372036854775808) := by
  rw [neg_msb, BitVec.msb_and, BitVec.msb_xor, BitVec.msb_xor]
  simp only [BitVec.msb_eq_toInt]
  have h3 : (BitVec.ofInt 64 (a + b)).toInt = if 9223372036854775807 < a + b then a + b - 18446744073709551616 else if a + b < -9223372036854775808 then a + b + 18446744073709551616 else a + b := by
    unfold i64r at ha hb
    rw [← wrap64]
    simp only [IntKind.wrap, IntKind.bits, IntKind.signed]; simp; omega
  rw [wrap_small ha.1 ha.2, wrap_small hb.1 hb.2, h3]
  unfold i64r at ha hb
  simp only [Bool.and_eq_true, bne_iff_ne, ne_eq, decide_eq_decide, Bool.xor, eq_iff_iff]
  omega

section
variable {k : IntKind} {x y : Int}
theorem intA_add : intA .add k x y = some (.int k (k.wrap (x + y))) := rfl
theorem intA_sub : intA .sub k x y = some (.int k (k.wrap (x - y))) := rfl
theorem intA_mul : intA .mul k x y = some (.int k (k.wrap (x * y))) := rfl
theorem intA_quo : intA .quo k x y = if y = 0 then none else some (.int k (k.wrap (x.tdiv y))) := rfl
theorem intA_rem : intA .rem k x y = if y = 0 then none else some (.int k (x.tmod y)) := rfl
theorem intA_eql : intA .eql k x y = some (.bool (decide (x = y))) := rfl
theorem intA_neq : intA .neq k x y = some (.bool (!decide (x = y))) := rfl
theorem intA_lss : intA .lss k x y = some (.bool (decide (x < y))) := rfl
theorem intA_leq : intA .leq k x y = some (.bool (decide (x ≤ y))) := rfl
theorem intA_gtr : intA .gtr k x y = some (.bool (decide (y < x))) := rfl
theorem intA_geq : intA .geq k x y = some (.bool (decide (y ≤ x))) := rfl
/-- Bit by bit. -/
def orU (x y : Int) : Int := ((BitVec.ofInt 64 x ||| BitVec.ofInt 64 y).toNat : Int)
def andI (x y : Int) : Int := (BitVec.ofInt 64 x &&& BitVec.ofInt 64 y).toInt
def xorI (x y : Int) : Int := (BitVec.ofInt 64 x ^^^ BitVec.ofInt 64 y).toInt
theorem wrap_toNatU (x : BitVec 64) : IntKind.u64.wrap (x.toNat : Int) = (x.toNat : Int) := by rw [wrapu64, ofInt_toNat]
theorem intA_oru : intA .or .u64 x y = some (.int .u64 (orU x y)) := congrArg (fun z => some (DV.int .u64 z)) (wrap_toNatU _)
theorem intA_andi : intA .and .i64 x y = some (.int .i64 (andI x y)) := congrArg (fun z => some (DV.int .i64 z)) (wrap_toNat _)
theorem intA_xori : intA .xor .i64 x y = some (.int .i64 (xorI x y)) := congrArg (fun z => some (DV.int .i64 z)) (wrap_toNat _)
theorem orU_zero : orU x 0 = IntKind.u64.wrap x := by simp only [orU, BitVec.ofInt_ofNat, BitVec.or_zero, wrapu64]
theorem orU_zero' : orU 0 x = IntKind.u64.wrap x := by simp only [orU, BitVec.ofInt_ofNat, BitVec.zero_or, wrapu64]
end
theorem wrap_uu (n : Int) : IntKind.u64.wrap (IntKind.u64.wrap n) = IntKind.u64.wrap n := by rw [wrapu64, ofInt_u64, ← wrapu64]
theorem wrap_u0 : IntKind.u64.wrap 0 = 0 := rfl
end Go.Fv
/- ABSTRACT VALUES AND STATES (27): loops; states of values without names; slices and rows, reckoned. -/
namespace Go.Fv

/-- A LOOP, by states that x tells, which μ counts down. -/
theorem LoopW.by {C : Ctx} {B : (St → Prop) → St → Prop} {S : St} {α : Type} (st : α → St) (ok : α → Prop) (μ : α → Nat) (x0 : α) (h0 : ok x0) (hs : Sub C S (st x0))
    (hr : ∀ x, ok x → ∀ N : St → Prop, (∀ S' y, ok y → μ y < μ x → Sub C S' (st y) → N S') → B N (st x)) : LoopW C B S := by
  refine ⟨fun S n => ∃ x, ok x ∧ S = st x ∧ n = μ x, ⟨st x0, μ x0, hs, x0, h0, rfl, rfl⟩, ?_⟩
  rintro S n ⟨x, hx, rfl, rfl⟩
  exact hr x hx _ fun S' y hy hlt hsub => ⟨st y, μ y, hsub, hlt, y, hy, rfl, rfl⟩

/-- Slots of values without names. -/
def plT (S : St) : List (Nat × Option DV) → Prop
  | [] => True
  | (_, none) :: r => plT S r
  | (t, some d) :: r => (S.get t = some d ∧ plain d = true) ∧ plT S r

theorem plT_tlT {M : Nm} {S : St} : ∀ {T : List (Nat × Option DV)}, plT S T → tlT M S T
  | [], _ => trivial
  | (_, none) :: r, h => plT_tlT (T := r) h
  | (t, some d) :: r, h => ⟨⟨d, h.1.1, .same d h.1.2⟩, plT_tlT (T := r) h.2⟩

theorem Sub.pl {C : Ctx} {S : St} {T : List (Nat × Option DV)} {nx : Nat} (q : Nat) (hN : ∀ n, C.N0 n → n < q) (hq : q ≤ S.nx) (hq2 : q ≤ nx) (h : plT S T) : Sub C S ⟨T, [], nx⟩ :=
  Sub.tell ⟨q, [], [], []⟩ hN (by simp [Nm.ok, hq, hq2]) (plT_tlT h) trivial

theorem elSize_eq {te : TE} {t e : Nat} {s b : Nat} {wf : Bool} {z : DV} {ei : TI} (h : te t = some ⟨.slice e, s, b, wf, z⟩) (he : te e = some ei) : elSize te t = some ei.size := by simp only [elSize, h, he, Option.map_some]
theorem elTI_eq {te : TE} {t e : Nat} {s b : Nat} {wf : Bool} {z : DV} (h : te t = some ⟨.slice e, s, b, wf, z⟩) : elTI te t = te e := by simp only [elTI, h]

section
variable {te : TE} {t k b s n : Nat} {rows : List (List DV)} {j : Int} {kk : IntKind} {H : Nat → Option Blk}
theorem iaddr_fz : iaddrA te t (some (.fz k rows)) (some (.int kk j)) = if elSize te t = some k then (if 0 ≤ j ∧ j < rows.length then some (.fp (rows.getD j.toNat [])) else none) else none := rfl
theorem iaddr_sl : iaddrA te t (some (.sl k b s n)) (some (.int kk j)) = if elSize te t = some k then (if 0 ≤ j ∧ j < n then some (.ptr b (s + j.toNat) 0) else none) else none := rfl
theorem len_fz {e zz yy : Nat} {wf : Bool} {z : DV} (h : te t = some ⟨.slice e, zz, yy, wf, z⟩) : lenA te H t (some (.fz k rows)) = some (.int .i64 rows.length) := by simp only [lenA, h]
theorem len_sl {e zz yy c : Nat} {wf : Bool} {z : DV} (h : te t = some ⟨.slice e, zz, yy, wf, z⟩) : lenA te H t (some (.sl k c s n)) = some (.int .i64 n) := by simp only [lenA, h]
theorem load_fp {ti : Option TI} {cs : List DV} : loadA ti H (some (.fp cs)) = packA ti cs := rfl
theorem getD_map {α β : Type} (f : α → β) (l : List α) (i : Nat) (d : β) (h : i < l.length) : (l.map f).getD i d = f l[i] := by
  rw [List.getD_eq_getElem?_getD, List.getElem?_map, List.getElem?_eq_getElem h]; rfl
end

/-- Rows of one number each. -/
def intRows (ns : List Int) : List (List DV) := ns.map fun n => [.int .i64 n]
theorem intRows_length (ns : List Int) : (intRows ns).length = ns.length := by simp [intRows]
theorem intRows_plain (ns : List Int) : plainR (intRows ns) = true := plainR_map fun _ => rfl
theorem intRows_getD {ns : List Int} {i : Nat} (h : i < ns.length) : (intRows ns).getD i [] = [.int .i64 ns[i]] := getD_map _ _ _ _ h
end Go.Fv
/- ABSTRACT VALUES AND STATES (28): lemmas by which a region of open order is reckoned. -/
namespace Go.Fv

def valD (d : OD) (R : List Nat) (S : St) (dst : Option Nat) (i : Nat) (acts : Acts) (k : Acts → St → Prop) : Prop := match d with
  | some d => k ((i, R, []) :: acts) (S.set dst (some d))
  | none => False
def effD (e : Option Eff) (R : List Nat) (S : St) (dst : Option Nat) (i : Nat) (acts : Acts) (k : Acts → St → Prop) : Prop := match e with
  | some eff => k ((i, R, keysU eff.U) :: acts) (St.set ⟨S.T, eff.U ++ S.H, S.nx⟩ dst eff.d)
  | none => False
def callD (C : Ctx) (b0 : Nat) (f : OD) (az : Option (List DV)) (S : St) (dst : Option Nat) (i : Nat) (acts : Acts) (k : Acts → St → Prop) : Prop :=
  ∃ (fv : DV) (xs : List DV) (d : DV) (U : List (Nat × Option Blk)) (R : List Nat), f = some fv ∧ az = some xs ∧ CallFx C.P fv xs S.blk (b0 + 16 * i) d U R ∧
    k ((i, R, keysU U) :: acts) (St.set ⟨S.T, U ++ S.H, S.nx⟩ dst (some d))
def drF (K : St → Prop) (ops : List SO) (af : List (List Nat)) (nx : Nat) (acts : Acts) (S : St) : Prop := (afOk af && drOk ops af acts) = true ∧ K ⟨S.T, S.H, nx⟩
def dwS (C : Ctx) (b0 : Nat) (fin : Acts → St → Prop) (os : List SO) (i : Nat) (acts : Acts) (S : St) : Prop := dW C b0 fin os i acts S
def ddS (C : Ctx) (b0 : Nat) (dst : Option Nat) (i : Nat) (acts : Acts) (k : Acts → St → Prop) (o : SOp) (S : St) : Prop := dDo C b0 S dst i acts k o
def dsS (dst : Option Nat) (k : Acts → St → Prop) (i : Nat) (acts : Acts) (S : St) : Prop := k ((i, [], []) :: acts) (S.set dst (some (.tup [])))

section
variable {C : Ctx} {S : St} {K : St → Prop} {k : Acts → St → Prop} {fin : Acts → St → Prop} {dst : Option Nat} {os ops : List SO} {op : SOp} {b0 i : Nat} {acts : Acts} {af : List (List Nat)} {d : DV} {R : List Nat}

theorem drW_eq : drW C K ops af S = dwS C S.nx (drF K ops af (S.nx + 16 * ops.length)) ops 0 [] S := rfl
theorem dwS_nil : dwS C b0 fin [] i acts S = fin acts S := rfl
theorem dwS_go : dwS C b0 fin (⟨dst, op, none⟩ :: os) i acts S = dDo C b0 S dst i acts (dwS C b0 fin os (i + 1)) op := rfl
theorem dwS_gd {t : Nat} {b : Bool} : dwS C b0 fin (⟨dst, op, some (t, b)⟩ :: os) i acts S = gdS (S.get t) b (ddS C b0 dst i acts (dwS C b0 fin os (i + 1)) op) (dsS dst (dwS C b0 fin os (i + 1)) i acts) S := rfl
theorem ddS_eq : ddS C b0 dst i acts k op S = dDo C b0 S dst i acts k op := rfl
theorem dsS_eq : dsS dst k i acts S = k ((i, [], []) :: acts) (S.set dst (some (.tup []))) := rfl
theorem valD_some : valD (some d) R S dst i acts k = k ((i, R, []) :: acts) (S.set dst (some d)) := rfl
theorem effD_some {d : OD} {U : List (Nat × Option Blk)} : effD (some ⟨d, U⟩) R S dst i acts k = k ((i, R, keysU U) :: acts) (St.set ⟨S.T, U ++ S.H, S.nx⟩ dst d) := rfl
theorem drF_eq {nx : Nat} : drF K ops af nx acts S = ((afOk af && drOk ops af acts) = true ∧ K ⟨S.T, S.H, nx⟩) := rfl

theorem valD_eq {o : OD} : (match valE o with
    | some eff => k ((i, R, keysU eff.U) :: acts) (St.set ⟨S.T, eff.U ++ S.H, S.nx⟩ dst eff.d)
    | none => False) = valD o R S dst i acts k := by cases o <;> rfl

theorem dd_call {f : O} {args : List O} : dDo C b0 S dst i acts k (.call f args) = callD C b0 (S.ev f) (allD (args.map S.ev)) S dst i acts k := rfl
theorem dd_build {t : Nat} {ps : List (Nat × O)} : dDo C b0 S dst i acts k (.build t ps) = valD (buildA (tiOf C.P) t (ps.map fun p => (p.1, S.ev p.2))) ((ps.map (·.2)).flatMap fun x => namesD (S.ev x)) S dst i acts k := valD_eq
theorem dd_bsl {t n : Nat} {ps : List (Nat × O)} : dDo C b0 S dst i acts k (.bsl t n ps) = effD (bslA (tiOf C.P) t n (b0 + 16 * i) (ps.map fun p => (p.1, S.ev p.2))) ((ps.map (·.2)).flatMap fun x => namesD (S.ev x)) S dst i acts k := rfl
theorem dd_slice {t : Nat} {x : O} {lo hi mx : Option O} : dDo C b0 S dst i acts k (.slice t x lo hi mx) = valD (sliceA (tiOf C.P) t (S.ev x) (lo.map S.ev) (hi.map S.ev) (mx.map S.ev)) ((x :: (lo.toList ++ hi.toList ++ mx.toList)).flatMap fun x => namesD (S.ev x)) S dst i acts k := valD_eq
theorem dd_mkfn {f : Nat} {a c : List O} : dDo C b0 S dst i acts k (.mkfn f a c) = valD (mkfnA f (allD (a.map S.ev)) (allD (c.map S.ev))) ((a ++ c).flatMap fun x => namesD (S.ev x)) S dst i acts k := by
  simp only [dDo, actA]
  cases allD (a.map S.ev) with
  | none => rfl
  | some a' => cases allD (c.map S.ev) <;> rfl
theorem dd_mkmap {t : Nat} : dDo C b0 S dst i acts k (.mkmap t) = k ((i, [], [b0 + 16 * i]) :: acts) (St.set ⟨S.T, (b0 + 16 * i, some (.map [])) :: S.H, S.nx⟩ dst (some (.mp (b0 + 16 * i)))) := rfl
theorem dd_mv {x : O} : dDo C b0 S dst i acts k (.mv x) = k ((i, (namesD (S.ev x) ++ []), []) :: acts) (S.set dst (S.ev x)) := rfl
theorem dd_pick {c a b : O} : dDo C b0 S dst i acts k (.pick c a b) = valD (pickA (S.ev c) (S.ev a) (S.ev b)) (namesD (S.ev c) ++ (namesD (S.ev a) ++ (namesD (S.ev b) ++ []))) S dst i acts k := valD_eq
theorem dd_alloc {t : Nat} : dDo C b0 S dst i acts k (.alloc t) = effD (allocA (tiOf C.P t) (b0 + 16 * i)) [] S dst i acts k := rfl
theorem dd_box {t : Nat} {x : O} : dDo C b0 S dst i acts k (.box t x) = effD (boxA (b0 + 16 * i) (S.ev x)) (namesD (S.ev x) ++ []) S dst i acts k := rfl
theorem dd_load {t : Nat} {a : O} : dDo C b0 S dst i acts k (.load t a) = valD (loadA (tiOf C.P t) S.blk (S.ev a)) (namesD (S.ev a) ++ []) S dst i acts k := valD_eq
theorem dd_store {t : Nat} {a x : O} : dDo C b0 S dst i acts k (.store t a x) = effD (storeA (tiOf C.P t) S.blk (S.ev a) (S.ev x)) (namesD (S.ev a) ++ (namesD (S.ev x) ++ [])) S dst i acts k := rfl
theorem dd_nilck {x : O} : dDo C b0 S dst i acts k (.nilck x) = valD (nilckA (S.ev x)) (namesD (S.ev x) ++ []) S dst i acts k := valD_eq
theorem dd_bin {o : BinOp} {t : Nat} {x y : O} : dDo C b0 S dst i acts k (.bin o t x y) = valD (binA (tiOf C.P) o t (S.ev x) (S.ev y)) (namesD (S.ev x) ++ (namesD (S.ev y) ++ [])) S dst i acts k := valD_eq
theorem dd_un {o : UnOp} {x : O} : dDo C b0 S dst i acts k (.un o x) = valD (unA o (S.ev x)) (namesD (S.ev x) ++ []) S dst i acts k := valD_eq
theorem dd_conv {s d : Nat} {x : O} : dDo C b0 S dst i acts k (.conv s d x) = valD (convA (tiOf C.P s) (tiOf C.P d) (S.ev x)) (namesD (S.ev x) ++ []) S dst i acts k := valD_eq
theorem dd_mksl {t : Nat} {l c : O} : dDo C b0 S dst i acts k (.mksl t l c) = effD (mkslA (tiOf C.P) t (b0 + 16 * i) (S.ev l) (S.ev c)) (namesD (S.ev l) ++ (namesD (S.ev c) ++ [])) S dst i acts k := rfl
theorem dd_faddr {t : Nat} {x : O} {f : Nat} : dDo C b0 S dst i acts k (.faddr t x f) = valD (faddrA (tiOf C.P t) f (S.ev x)) (namesD (S.ev x) ++ []) S dst i acts k := valD_eq
theorem dd_iaddr {t : Nat} {x j : O} : dDo C b0 S dst i acts k (.iaddr t x j) = valD (iaddrA (tiOf C.P) t (S.ev x) (S.ev j)) (namesD (S.ev x) ++ (namesD (S.ev j) ++ [])) S dst i acts k := valD_eq
theorem dd_lkp {t : Nat} {x j : O} {ok : Bool} : dDo C b0 S dst i acts k (.lkp t x j ok) = valD (lkpA (tiOf C.P) S.blk t ok (S.ev x) (S.ev j)) (namesD (S.ev x) ++ (namesD (S.ev j) ++ [])) S dst i acts k := valD_eq
theorem dd_mupd {t : Nat} {m y v : O} : dDo C b0 S dst i acts k (.mupd t m y v) = effD (mupdA (tiOf C.P) S.blk t (S.ev m) (S.ev y) (S.ev v)) (namesD (S.ev m) ++ (namesD (S.ev y) ++ (namesD (S.ev v) ++ []))) S dst i acts k := rfl
theorem dd_ext {x : O} {j : Nat} : dDo C b0 S dst i acts k (.ext x j) = valD (extA j (S.ev x)) (namesD (S.ev x) ++ []) S dst i acts k := valD_eq
theorem dd_len {t : Nat} {x : O} : dDo C b0 S dst i acts k (.len t x) = valD (lenA (tiOf C.P) S.blk t (S.ev x)) (namesD (S.ev x) ++ []) S dst i acts k := valD_eq
theorem dd_cap {t : Nat} {x : O} : dDo C b0 S dst i acts k (.cap t x) = valD (capA (tiOf C.P) t (S.ev x)) (namesD (S.ev x) ++ []) S dst i acts k := valD_eq
theorem dd_app {t u : Nat} {x y : O} : dDo C b0 S dst i acts k (.app t u x y) = effD (appA (tiOf C.P) S.blk t u (b0 + 16 * i) (S.ev x) (S.ev y)) (namesD (S.ev x) ++ (namesD (S.ev y) ++ [])) S dst i acts k := rfl
theorem dd_copy {t u : Nat} {x y : O} : dDo C b0 S dst i acts k (.copy t u x y) = effD (copyA (tiOf C.P) S.blk t u (S.ev x) (S.ev y)) (namesD (S.ev x) ++ (namesD (S.ev y) ++ [])) S dst i acts k := rfl
theorem dd_clear {t : Nat} {x : O} : dDo C b0 S dst i acts k (.clear t x) = effD (clearA (tiOf C.P) S.blk t (S.ev x)) (namesD (S.ev x) ++ []) S dst i acts k := rfl
theorem dd_max {x y : O} : dDo C b0 S dst i acts k (.max x y) = valD (maxA (S.ev x) (S.ev y)) (namesD (S.ev x) ++ (namesD (S.ev y) ++ [])) S dst i acts k := valD_eq
theorem dd_min {x y : O} : dDo C b0 S dst i acts k (.min x y) = valD (minA (S.ev x) (S.ev y)) (namesD (S.ev x) ++ (namesD (S.ev y) ++ [])) S dst i acts k := valD_eq

theorem namesD_ptr {b r c : Nat} : namesD (some (.ptr b r c)) = [b] := rfl
theorem namesD_sl {k b s n : Nat} : namesD (some (.sl k b s n)) = [b] := rfl
theorem namesD_mp {b : Nat} : namesD (some (.mp b)) = [b] := rfl
theorem namesD_int {kk : IntKind} {n : Int} : namesD (some (.int kk n)) = [] := rfl
theorem namesD_bool {b : Bool} : namesD (some (.bool b)) = [] := rfl
theorem namesD_fz {k : Nat} {rows : List (List DV)} : namesD (some (.fz k rows)) = [] := rfl
theorem namesD_fp {rows : List DV} : namesD (some (.fp rows)) = [] := rfl
theorem namesD_agg {rows : List DV} : namesD (some (.agg rows)) = [] := rfl
theorem namesD_tup {rows : List DV} : namesD (some (.tup rows)) = [] := rfl
theorem namesD_fn {f : Nat} {a c : List DV} : namesD (some (.fn f a c)) = [] := rfl
theorem namesD_nilsl : namesD (some .nilsl) = [] := rfl
theorem namesD_none : namesD none = [] := rfl

theorem callD_pure {P : Program} {f : FuncId} {az : List DV} (hP : C.P = P) (hs : Pure P f az d) (ha : plainL az = true) (hd : plain d = true) (hk : k ((i, [], []) :: acts) (St.set ⟨S.T, S.H, S.nx⟩ dst (some d))) :
    callD C b0 (some (.fn f [] [])) (some az) S dst i acts k := by
  subst hP
  exact ⟨_, _, d, [], [], rfl, rfl, callFx_pure hs ha hd, hk⟩
end
end Go.Fv
/- ABSTRACT VALUES AND STATES (29): states of which the low names are kept, all else forgotten; a return that freezes. -/
namespace Go.Fv

mutual
/-- All names are below q. -/
def low (q : Nat) : DV → Bool
  | .int _ _ | .bool _ | .nilp | .nilsl | .nilmp | .nilfn | .any => true
  | .agg cs => lowL q cs
  | .tup cs => lowL q cs
  | .fp cs => lowL q cs
  | .fz _ rows => plainR rows
  | .fn _ a c => lowL q a && lowL q c
  | .ptr b _ _ => decide (b < q)
  | .sl _ b _ _ => decide (b < q)
  | .mp b => decide (b < q)
def lowL (q : Nat) : List DV → Bool
  | [] => true
  | d :: ds => low q d && lowL q ds
def lowR (q : Nat) : List (List DV) → Bool
  | [] => true
  | d :: ds => lowL q d && lowR q ds
end

mutual
theorem low_of_plain {q : Nat} : ∀ (d : DV), plain d = true → low q d = true
  | .int k n, h | .bool b, h | .nilp, h | .nilsl, h | .nilmp, h | .nilfn, h | .any, h => by simp only [low]
  | .agg cs, h => by simp only [plain] at h; simp only [low, lowL_of_plain cs h]
  | .tup cs, h => by simp only [plain] at h; simp only [low, lowL_of_plain cs h]
  | .fp cs, h => by simp only [plain] at h; simp only [low, lowL_of_plain cs h]
  | .fz k rows, h => by simp only [plain] at h; simp only [low, h]
  | .fn f a c, h => by simp only [plain, Bool.and_eq_true] at h; simp only [low, lowL_of_plain a h.1, lowL_of_plain c h.2, Bool.and_self]
  | .ptr b r c, h => by simp [plain] at h
  | .sl k b s n, h => by simp [plain] at h
  | .mp b, h => by simp [plain] at h
theorem lowL_of_plain {q : Nat} : ∀ (d : List DV), plainL d = true → lowL q d = true
  | [], _ => by simp only [lowL]
  | d :: ds, h => by simp only [plainL, Bool.and_eq_true] at h; simp only [lowL, low_of_plain d h.1, lowL_of_plain ds h.2, Bool.and_self]
theorem lowR_of_plain {q : Nat} : ∀ (d : List (List DV)), plainR d = true → lowR q d = true
  | [], _ => by simp only [lowR]
  | d :: ds, h => by simp only [plainR, Bool.and_eq_true] at h; simp only [lowR, lowL_of_plain d h.1, lowR_of_plain ds h.2, Bool.and_self]
end

theorem new_low {M : Nm} {q b : Nat} (hM : M.L = []) (hq : q ≤ M.q) (h : decide (b < q) = true) : M.new b = some b := by
  simp only [decide_eq_true_eq] at h
  simp only [Nm.new, hM, lkN]
  rw [if_pos (by omega)]

mutual
theorem low_Tl {M : Nm} {hh : Nat → Option Blk} {q : Nat} (hM : M.L = []) (hq : q ≤ M.q) : ∀ (d : DV), low q d = true → Tl M hh d d
  | .int k n, h | .bool b, h | .nilp, h | .nilsl, h | .nilmp, h | .nilfn, h | .any, h => .same _ rfl
  | .agg cs, h => by simp only [low] at h; exact .agg cs cs rfl fun i x y hx hy => by rw [hx] at hy; cases hy; exact lowL_Tl hM hq cs h x (List.mem_of_getElem? hx)
  | .tup cs, h => by simp only [low] at h; exact .tup cs cs rfl fun i x y hx hy => by rw [hx] at hy; cases hy; exact lowL_Tl hM hq cs h x (List.mem_of_getElem? hx)
  | .fp cs, h => by simp only [low] at h; exact .fp cs cs rfl fun i x y hx hy => by rw [hx] at hy; cases hy; exact lowL_Tl hM hq cs h x (List.mem_of_getElem? hx)
  | .fz k rows, h => by
    simp only [low] at h
    exact .same _ (by simp only [plain, h])
  | .fn f a c, h => by
    simp only [low, Bool.and_eq_true] at h
    exact .fn f a a c c rfl rfl (fun i x y hx hy => by rw [hx] at hy; cases hy; exact lowL_Tl hM hq a h.1 x (List.mem_of_getElem? hx)) (fun i x y hx hy => by rw [hx] at hy; cases hy; exact lowL_Tl hM hq c h.2 x (List.mem_of_getElem? hx))
  | .ptr b r c, h => by simp only [low] at h; exact .ptr b b r c (new_low hM hq h)
  | .sl k b s n, h => by simp only [low] at h; exact .sl k b b s n (new_low hM hq h)
  | .mp b, h => by simp only [low] at h; exact .mp b b (new_low hM hq h)
theorem lowL_Tl {M : Nm} {hh : Nat → Option Blk} {q : Nat} (hM : M.L = []) (hq : q ≤ M.q) : ∀ (ds : List DV), lowL q ds = true → ∀ d ∈ ds, Tl M hh d d
  | [], _ => by simp
  | d :: ds, h => by
    simp only [lowL, Bool.and_eq_true] at h
    intro x hx
    rcases List.mem_cons.1 hx with e | hx
    · rw [e]; exact low_Tl hM hq d h.1
    · exact lowL_Tl hM hq ds h.2 x hx
end

theorem lowR_at {q : Nat} : ∀ {rs : List (List DV)}, lowR q rs = true → ∀ r ∈ rs, lowL q r = true
  | [], _ => by simp
  | d :: ds, h => by
    simp only [lowR, Bool.and_eq_true] at h
    intro x hx
    rcases List.mem_cons.1 hx with rfl | hx
    · exact h.1
    · exact lowR_at h.2 x hx

def lowB (q : Nat) : Blk → Bool
  | .rows _ rs => lowR q rs
  | .map es => es.all fun x => low q x.1 && low q x.2

theorem lowB_TlB {M : Nm} {hh : Nat → Option Blk} {q : Nat} (hM : M.L = []) (hq : q ≤ M.q) {B : Blk} (h : lowB q B = true) : TlB M hh B B := by
  cases B with
  | rows k rs =>
    refine .rows k rs rs rfl (fun i x y hx hy => by rw [hx] at hy; cases hy; rfl) fun i j r s x y hr hs hx hy => ?_
    rw [hr] at hs; cases hs
    rw [hx] at hy; cases hy
    exact lowL_Tl hM hq r (lowR_at h r (List.mem_of_getElem? hr)) x (List.mem_of_getElem? hx)
  | map es =>
    refine .map es es rfl fun i x y hx hy => ?_
    rw [hx] at hy; cases hy
    have := List.all_eq_true.1 h x (List.mem_of_getElem? hx)
    simp only [Bool.and_eq_true] at this
    exact ⟨low_Tl hM hq x.1 this.1, low_Tl hM hq x.2 this.2⟩

def kpT (q : Nat) (S : St) : List (Nat × Option DV) → Prop
  | [] => True
  | (_, none) :: r => kpT q S r
  | (t, some d) :: r => (S.get t = some d ∧ low q d = true) ∧ kpT q S r

def kpH (q : Nat) (S : St) : List (Nat × Option Blk) → Prop
  | [] => True
  | (_, none) :: r => kpH q S r
  | (n, some B) :: r => (S.blk n = some B ∧ n < q ∧ lowB q B = true) ∧ kpH q S r

theorem kpT_tlT {M : Nm} {q : Nat} (hM : M.L = []) (hq : q ≤ M.q) {S : St} : ∀ {T : List (Nat × Option DV)}, kpT q S T → tlT M S T
  | [], _ => trivial
  | (_, none) :: r, h => kpT_tlT hM hq (T := r) h
  | (_, some d) :: r, h => ⟨⟨d, h.1.1, low_Tl hM hq d h.1.2⟩, kpT_tlT hM hq (T := r) h.2⟩

theorem kpH_tlH {M : Nm} {q : Nat} (hM : M.L = []) (hZ : M.Z = []) (hq : q ≤ M.q) {S : St} : ∀ {H : List (Nat × Option Blk)}, kpH q S H → tlH M S H
  | [], _ => trivial
  | (_, none) :: r, h => kpH_tlH hM hZ hq (H := r) h
  | (n, some B) :: r, h => ⟨.inl ⟨n, B, new_low hM hq (by simpa using h.1.2.1), by simp [hZ], h.1.1, lowB_TlB hM hq h.1.2.2⟩, kpH_tlH hM hZ hq (H := r) h.2⟩

/-- A STATE OF WHICH THE NAMES BELOW q ARE KEPT. -/
theorem Sub.keep {C : Ctx} {S : St} {T : List (Nat × Option DV)} {H : List (Nat × Option Blk)} {nx : Nat} (q : Nat) (hN : ∀ n, C.N0 n → n < q) (hq : q ≤ S.nx) (hq2 : q ≤ nx) (hT : kpT q S T) (hH : kpH q S H) : Sub C S ⟨T, H, nx⟩ :=
  Sub.tell ⟨q, [], [], []⟩ hN (by simp [Nm.ok, hq, hq2]) (kpT_tlT rfl (Nat.le_refl _) hT) (kpH_tlH rfl rfl (Nat.le_refl _) hH)

/-- An own slice's rows, frozen. -/
theorem Tl.freeze {M : Nm} {h : Nat → Option Blk} {k b s n : Nat} {rs rows : List (List DV)} (hZ : b ∈ M.Z) (hb : h b = some (.rows k rs)) (hle : s + n ≤ rs.length) (hr : (rs.drop s).take n = rows) (hp : plainR rows = true)
    (hk : ∀ r ∈ rows, r.length = k) : Tl M h (.sl k b s n) (.fz k rows) := by
  subst hr
  refine .frz k b s n rs _ hZ hb hle (by simp; omega) (fun i j r r' x y h1 h2 h3 h4 => ?_) hk
  rw [h1] at h2; cases h2
  rw [h3] at h4; cases h4
  exact .same x (plainL_all.1 (plainR_all.1 hp r (List.mem_of_getElem? h1)) x (List.mem_of_getElem? h3))
end Go.Fv
/- MADE BY PROGRAM (wip/tools/ev.py): the evaluation lemmas at once. -/
namespace Go.Fv
theorem EV : (∀ {C : Ctx} {S : St} {N : St → Prop} {X : Nat → St → Prop} {Q : St → Prop}, W C Q .skip N X S = N S) ∧
  (∀ {C : Ctx} {S : St} {N : St → Prop} {X : Nat → St → Prop} {Q : St → Prop} {l : List SO}, W C Q (.rg l) N X S = opsW C N l S) ∧
  (∀ {C : Ctx} {S : St} {N : St → Prop} {X : Nat → St → Prop} {Q : St → Prop} {l : List SO} {af : List (List Nat)}, W C Q (.dr l af) N X S = drW C N l af S) ∧
  (∀ {C : Ctx} {S : St} {N : St → Prop} {X : Nat → St → Prop} {Q : St → Prop} {a b : SC}, W C Q (.seq a b) N X S = W C Q a (W C Q b N X) X S) ∧
  (∀ {C : Ctx} {S : St} {N : St → Prop} {X : Nat → St → Prop} {Q : St → Prop} {c : O} {a b : SC}, W C Q (.cond c a b) N X S = condS (S.ev c) (W C Q a N X) (W C Q b N X) S) ∧
  (∀ {C : Ctx} {S : St} {N : St → Prop} {X : Nat → St → Prop} {Q : St → Prop} {id : Nat} {a : SC}, W C Q (.block id a) N X S = W C Q a N (blkX id N X) S) ∧
  (∀ {C : Ctx} {S : St} {N : St → Prop} {X : Nat → St → Prop} {Q : St → Prop} {a : SC}, W C Q (.loop a) N X S = LoopW C (loopB C Q a X) S) ∧
  (∀ {C : Ctx} {S : St} {N : St → Prop} {X : Nat → St → Prop} {Q : St → Prop} {id : Nat}, W C Q (.exit id) N X S = X id S) ∧
  (∀ {C : Ctx} {S : St} {N : St → Prop} {X : Nat → St → Prop} {Q : St → Prop}, W C Q .ret N X S = Q S) ∧
  (∀ {C : Ctx} {S : St} {K : St → Prop}, opsW C K [] S = K S) ∧
  (∀ {C : Ctx} {S : St} {K : St → Prop} {dst : Option Nat} {os : List SO} {o : SOp}, opsW C K (⟨dst, o, none⟩ :: os) S = doW C S dst (opsK C K os dst) (opsW C K os) o) ∧
  (∀ {C : Ctx} {S : St} {K : St → Prop} {dst : Option Nat} {os : List SO} {o : SOp} {t : Nat} {b : Bool}, opsW C K (⟨dst, o, some (t, b)⟩ :: os) S =
    gdS (S.get t) b (doS C dst (opsK C K os dst) (opsW C K os) o) (skS dst (opsW C K os)) S) ∧
  (∀ {S : St} {A B : St → Prop}, gdS (some (.bool true)) true A B S = A S) ∧
  (∀ {S : St} {A B : St → Prop}, gdS (some (.bool false)) false A B S = A S) ∧
  (∀ {S : St} {A B : St → Prop}, gdS (some (.bool true)) false A B S = B S) ∧
  (∀ {S : St} {A B : St → Prop}, gdS (some (.bool false)) true A B S = B S) ∧
  (∀ {S : St} {A B : St → Prop} {b : Bool}, gdS (some (.tup [])) b A B S = B S) ∧
  (∀ {S : St} {A B : St → Prop}, condS (some (.bool true)) A B S = A S) ∧
  (∀ {S : St} {A B : St → Prop}, condS (some (.bool false)) A B S = B S) ∧
  (∀ {C : Ctx} {S : St} {ka : St → Prop} {kc : DV → St → Prop} {dst : Option Nat} {o : SOp}, doS C dst kc ka o S = doW C S dst kc ka o) ∧
  (∀ {ka : St → Prop} {dst : Option Nat} {T : List (Nat × Option DV)} {H : List (Nat × Option Blk)} {nx : Nat}, skS dst ka ⟨T, H, nx⟩ = ka (St.set ⟨T, H, nx + 16⟩ dst (some (.tup [])))) ∧
  (∀ {C : Ctx} {S : St} {K : St → Prop} {dst : Option Nat} {os : List SO} {d : DV}, opsK C K os dst d S = opsW C K os (S.set dst (some d))) ∧
  (∀ {S : St} {N : St → Prop} {X : Nat → St → Prop} {id j : Nat}, blkX id N X j S = if j = id then N S else X j S) ∧
  (∀ {C : Ctx} {S : St} {N : St → Prop} {X : Nat → St → Prop} {Q : St → Prop} {a : SC}, loopB C Q a X N S = W C Q a N X S) ∧
  (∀ {S : St} {ka : St → Prop} {dst : Option Nat} {d : DV}, valW (some d) S dst ka = ka (St.set ⟨S.T, S.H, S.nx + 16⟩ dst (some d))) ∧
  (∀ {S : St} {ka : St → Prop} {dst : Option Nat} {d : OD} {U : List (Nat × Option Blk)}, effW (some ⟨d, U⟩) S dst ka = ka (St.set ⟨S.T, U ++ S.H, S.nx + 16⟩ dst d)) ∧
  (∀ {C : Ctx} {S : St} {ka : St → Prop} {kc : DV → St → Prop} {dst : Option Nat} {x : O}, doW C S dst kc ka (.mv x) = ka (St.set ⟨S.T, S.H, S.nx + 16⟩ dst (S.ev x))) ∧
  (∀ {C : Ctx} {S : St} {ka : St → Prop} {kc : DV → St → Prop} {dst : Option Nat} {c a b : O}, doW C S dst kc ka (.pick c a b) = valW (pickA (S.ev c) (S.ev a) (S.ev b)) S dst ka) ∧
  (∀ {C : Ctx} {S : St} {ka : St → Prop} {kc : DV → St → Prop} {dst : Option Nat} {t : Nat}, doW C S dst kc ka (.alloc t) = effW (allocA (tiOf C.P t) S.nx) S dst ka) ∧
  (∀ {C : Ctx} {S : St} {ka : St → Prop} {kc : DV → St → Prop} {dst : Option Nat} {t : Nat} {x : O}, doW C S dst kc ka (.box t x) = effW (boxA S.nx (S.ev x)) S dst ka) ∧
  (∀ {C : Ctx} {S : St} {ka : St → Prop} {kc : DV → St → Prop} {dst : Option Nat} {t : Nat} {ps : List (Nat × O)}, doW C S dst kc ka (.build t ps) = valW (buildA (tiOf C.P) t (ps.map fun p => (p.1, S.ev p.2))) S dst ka) ∧
  (∀ {C : Ctx} {S : St} {ka : St → Prop} {kc : DV → St → Prop} {dst : Option Nat} {t n : Nat} {ps : List (Nat × O)}, doW C S dst kc ka (.bsl t n ps) = effW (bslA (tiOf C.P) t n S.nx (ps.map fun p => (p.1, S.ev p.2))) S dst ka) ∧
  (∀ {C : Ctx} {S : St} {ka : St → Prop} {kc : DV → St → Prop} {dst : Option Nat} {t : Nat} {a : O}, doW C S dst kc ka (.load t a) = valW (loadA (tiOf C.P t) S.blk (S.ev a)) S dst ka) ∧
  (∀ {C : Ctx} {S : St} {ka : St → Prop} {kc : DV → St → Prop} {dst : Option Nat} {t : Nat} {a x : O}, doW C S dst kc ka (.store t a x) = effW (storeA (tiOf C.P t) S.blk (S.ev a) (S.ev x)) S dst ka) ∧
  (∀ {C : Ctx} {S : St} {ka : St → Prop} {kc : DV → St → Prop} {dst : Option Nat} {x : O}, doW C S dst kc ka (.nilck x) = valW (nilckA (S.ev x)) S dst ka) ∧
  (∀ {C : Ctx} {S : St} {ka : St → Prop} {kc : DV → St → Prop} {dst : Option Nat} {o : BinOp} {t : Nat} {x y : O}, doW C S dst kc ka (.bin o t x y) = valW (binA (tiOf C.P) o t (S.ev x) (S.ev y)) S dst ka) ∧
  (∀ {C : Ctx} {S : St} {ka : St → Prop} {kc : DV → St → Prop} {dst : Option Nat} {o : UnOp} {x : O}, doW C S dst kc ka (.un o x) = valW (unA o (S.ev x)) S dst ka) ∧
  (∀ {C : Ctx} {S : St} {ka : St → Prop} {kc : DV → St → Prop} {dst : Option Nat} {s d : Nat} {x : O}, doW C S dst kc ka (.conv s d x) = valW (convA (tiOf C.P s) (tiOf C.P d) (S.ev x)) S dst ka) ∧
  (∀ {C : Ctx} {S : St} {ka : St → Prop} {kc : DV → St → Prop} {dst : Option Nat} {f : Nat} {a c : List O}, doW C S dst kc ka (.mkfn f a c) = valW (mkfnA f (allD (a.map S.ev)) (allD (c.map S.ev))) S dst ka) ∧
  (∀ {C : Ctx} {S : St} {ka : St → Prop} {kc : DV → St → Prop} {dst : Option Nat} {t : Nat}, doW C S dst kc ka (.mkmap t) = ka (St.set ⟨S.T, (S.nx, some (.map [])) :: S.H, S.nx + 16⟩ dst (some (.mp S.nx)))) ∧
  (∀ {C : Ctx} {S : St} {ka : St → Prop} {kc : DV → St → Prop} {dst : Option Nat} {t : Nat} {l c : O}, doW C S dst kc ka (.mksl t l c) = effW (mkslA (tiOf C.P) t S.nx (S.ev l) (S.ev c)) S dst ka) ∧
  (∀ {C : Ctx} {S : St} {ka : St → Prop} {kc : DV → St → Prop} {dst : Option Nat} {t : Nat} {x : O} {lo hi mx : Option O}, doW C S dst kc ka (.slice t x lo hi mx) = valW (sliceA (tiOf C.P) t (S.ev x) (lo.map S.ev) (hi.map S.ev) (mx.map S.ev)) S dst ka) ∧
  (∀ {C : Ctx} {S : St} {ka : St → Prop} {kc : DV → St → Prop} {dst : Option Nat} {t : Nat} {x : O} {f : Nat}, doW C S dst kc ka (.faddr t x f) = valW (faddrA (tiOf C.P t) f (S.ev x)) S dst ka) ∧
  (∀ {C : Ctx} {S : St} {ka : St → Prop} {kc : DV → St → Prop} {dst : Option Nat} {t : Nat} {x i : O}, doW C S dst kc ka (.iaddr t x i) = valW (iaddrA (tiOf C.P) t (S.ev x) (S.ev i)) S dst ka) ∧
  (∀ {C : Ctx} {S : St} {ka : St → Prop} {kc : DV → St → Prop} {dst : Option Nat} {t : Nat} {x i : O} {ok : Bool}, doW C S dst kc ka (.lkp t x i ok) = valW (lkpA (tiOf C.P) S.blk t ok (S.ev x) (S.ev i)) S dst ka) ∧
  (∀ {C : Ctx} {S : St} {ka : St → Prop} {kc : DV → St → Prop} {dst : Option Nat} {t : Nat} {m k v : O}, doW C S dst kc ka (.mupd t m k v) = effW (mupdA (tiOf C.P) S.blk t (S.ev m) (S.ev k) (S.ev v)) S dst ka) ∧
  (∀ {C : Ctx} {S : St} {ka : St → Prop} {kc : DV → St → Prop} {dst : Option Nat} {x : O} {i : Nat}, doW C S dst kc ka (.ext x i) = valW (extA i (S.ev x)) S dst ka) ∧
  (∀ {C : Ctx} {S : St} {ka : St → Prop} {kc : DV → St → Prop} {dst : Option Nat} {t : Nat} {x : O}, doW C S dst kc ka (.len t x) = valW (lenA (tiOf C.P) S.blk t (S.ev x)) S dst ka) ∧
  (∀ {C : Ctx} {S : St} {ka : St → Prop} {kc : DV → St → Prop} {dst : Option Nat} {t : Nat} {x : O}, doW C S dst kc ka (.cap t x) = valW (capA (tiOf C.P) t (S.ev x)) S dst ka) ∧
  (∀ {C : Ctx} {S : St} {ka : St → Prop} {kc : DV → St → Prop} {dst : Option Nat} {t u : Nat} {x y : O}, doW C S dst kc ka (.app t u x y) = effW (appA (tiOf C.P) S.blk t u S.nx (S.ev x) (S.ev y)) S dst ka) ∧
  (∀ {C : Ctx} {S : St} {ka : St → Prop} {kc : DV → St → Prop} {dst : Option Nat} {t u : Nat} {x y : O}, doW C S dst kc ka (.copy t u x y) = effW (copyA (tiOf C.P) S.blk t u (S.ev x) (S.ev y)) S dst ka) ∧
  (∀ {C : Ctx} {S : St} {ka : St → Prop} {kc : DV → St → Prop} {dst : Option Nat} {t : Nat} {x : O}, doW C S dst kc ka (.clear t x) = effW (clearA (tiOf C.P) S.blk t (S.ev x)) S dst ka) ∧
  (∀ {C : Ctx} {S : St} {ka : St → Prop} {kc : DV → St → Prop} {dst : Option Nat} {x y : O}, doW C S dst kc ka (.max x y) = valW (maxA (S.ev x) (S.ev y)) S dst ka) ∧
  (∀ {C : Ctx} {S : St} {ka : St → Prop} {kc : DV → St → Prop} {dst : Option Nat} {x y : O}, doW C S dst kc ka (.min x y) = valW (minA (S.ev x) (S.ev y)) S dst ka) ∧
  (∀ {C : Ctx} {S : St} {ka : St → Prop} {kc : DV → St → Prop} {dst : Option Nat} {f : O} {args : List O}, doW C S dst kc ka (.call f args) = callW C (S.ev f) (allD (args.map S.ev)) S kc) ∧
  (∀ {T : List (Nat × Option DV)} {H : List (Nat × Option Blk)} {nx t : Nat} {d : OD}, St.set ⟨T, H, nx⟩ (some t) d = ⟨(t, d) :: T, H, nx⟩) ∧
  (∀ {S : St} {d : OD}, St.set S none d = S) ∧
  (∀ {S : St} {n : Nat}, S.ev (.t n) = S.get n) ∧
  (∀ {S : St} {d : DV}, S.ev (.c d) = some d) ∧
  (∀ {T : List (Nat × Option DV)} {H : List (Nat × Option Blk)} {nx t : Nat}, St.get ⟨T, H, nx⟩ t = lkO T t) ∧
  (∀ {α : Type} {t : Nat} {v : Option α} {r : List (Nat × Option α)}, lkO ((t, v) :: r) t = v) ∧
  (allD [] = some []) ∧
  (∀ {d : DV} {r : List OD}, allD (some d :: r) = (allD r).map (d :: ·)) ∧
  (∀ {i : Nat}, slots [] i = []) ∧
  (∀ {a : DV} {r : List DV} {i : Nat}, slots (a :: r) i = (i, some a) :: slots r (i + 1)) :=
  ⟨by intros; exact W_skip, by intros; exact W_rg, by intros; exact W_dr, by intros; exact W_seq, by intros; exact W_cond, by intros; exact W_block, by intros; exact W_loop, by intros; exact W_exit, by intros; exact W_ret, by intros; exact opsW_nil, by intros; exact opsW_go, by intros; exact opsW_gd, by intros; exact gdS_tt, by intros; exact gdS_ff, by intros; exact gdS_tf, by intros; exact gdS_ft, by intros; exact gdS_u, by intros; exact condS_t, by intros; exact condS_f, by intros; exact doS_eq, by intros; exact skS_mk, by intros; exact opsK_eq, by intros; exact blkX_eq, by intros; exact loopB_eq, by intros; exact valW_some, by intros; exact effW_some, by intros; exact do_mv, by intros; exact do_pick, by intros; exact do_alloc, by intros; exact do_box, by intros; exact do_build, by intros; exact do_bsl, by intros; exact do_load, by intros; exact do_store, by intros; exact do_nilck, by intros; exact do_bin, by intros; exact do_un, by intros; exact do_conv, by intros; exact do_mkfn, by intros; exact do_mkmap, by intros; exact do_mksl, by intros; exact do_slice, by intros; exact do_faddr, by intros; exact do_iaddr, by intros; exact do_lkp, by intros; exact do_mupd, by intros; exact do_ext, by intros; exact do_len, by intros; exact do_cap, by intros; exact do_app, by intros; exact do_copy, by intros; exact do_clear, by intros; exact do_max, by intros; exact do_min, by intros; exact do_call, by intros; exact set_some, by intros; exact set_none, by intros; exact ev_t, by intros; exact ev_c, by intros; exact get_mk, by intros; exact lkO_hit, by intros; exact allD_nil, by intros; exact allD_cons, by intros; exact slots_nil, by intros; exact slots_cons⟩
theorem DR : (∀ {C : Ctx} {S : St} {K : St → Prop} {ops : List SO} {af : List (List Nat)}, drW C K ops af S = dwS C S.nx (drF K ops af (S.nx + 16 * ops.length)) ops 0 [] S) ∧
  (∀ {C : Ctx} {S : St} {fin : Acts → St → Prop} {b0 : Nat} {i : Nat} {acts : Acts}, dwS C b0 fin [] i acts S = fin acts S) ∧
  (∀ {C : Ctx} {S : St} {dst : Option Nat} {os : List SO} {op : SOp} {fin : Acts → St → Prop} {b0 : Nat} {i : Nat} {acts : Acts}, dwS C b0 fin (⟨dst, op, none⟩ :: os) i acts S = dDo C b0 S dst i acts (dwS C b0 fin os (i + 1)) op) ∧
  (∀ {C : Ctx} {S : St} {dst : Option Nat} {os : List SO} {op : SOp} {fin : Acts → St → Prop} {b0 : Nat} {i : Nat} {acts : Acts} {t : Nat} {b : Bool}, dwS C b0 fin (⟨dst, op, some (t, b)⟩ :: os) i acts S = gdS (S.get t) b (ddS C b0 dst i acts (dwS C b0 fin os (i + 1)) op) (dsS dst (dwS C b0 fin os (i + 1)) i acts) S) ∧
  (∀ {C : Ctx} {S : St} {dst : Option Nat} {op : SOp} {k : Acts → St → Prop} {b0 : Nat} {i : Nat} {acts : Acts}, ddS C b0 dst i acts k op S = dDo C b0 S dst i acts k op) ∧
  (∀ {S : St} {dst : Option Nat} {k : Acts → St → Prop} {i : Nat} {acts : Acts}, dsS dst k i acts S = k ((i, [], []) :: acts) (S.set dst (some (.tup [])))) ∧
  (∀ {S : St} {dst : Option Nat} {k : Acts → St → Prop} {i : Nat} {acts : Acts} {d : DV} {R : List Nat}, valD (some d) R S dst i acts k = k ((i, R, []) :: acts) (S.set dst (some d))) ∧
  (∀ {S : St} {dst : Option Nat} {k : Acts → St → Prop} {i : Nat} {acts : Acts} {R : List Nat} {d : OD} {U : List (Nat × Option Blk)}, effD (some ⟨d, U⟩) R S dst i acts k = k ((i, R, keysU U) :: acts) (St.set ⟨S.T, U ++ S.H, S.nx⟩ dst d)) ∧
  (∀ {C : Ctx} {S : St} {dst : Option Nat} {k : Acts → St → Prop} {b0 : Nat} {i : Nat} {acts : Acts} {f : O} {args : List O}, dDo C b0 S dst i acts k (.call f args) = callD C b0 (S.ev f) (allD (args.map S.ev)) S dst i acts k) ∧
  (∀ {C : Ctx} {S : St} {dst : Option Nat} {k : Acts → St → Prop} {b0 : Nat} {i : Nat} {acts : Acts} {t : Nat} {ps : List (Nat × O)}, dDo C b0 S dst i acts k (.build t ps) = valD (buildA (tiOf C.P) t (ps.map fun p => (p.1, S.ev p.2))) ((ps.map (·.2)).flatMap fun x => namesD (S.ev x)) S dst i acts k) ∧
  (∀ {C : Ctx} {S : St} {dst : Option Nat} {k : Acts → St → Prop} {b0 : Nat} {i : Nat} {acts : Acts} {t n : Nat} {ps : List (Nat × O)}, dDo C b0 S dst i acts k (.bsl t n ps) = effD (bslA (tiOf C.P) t n (b0 + 16 * i) (ps.map fun p => (p.1, S.ev p.2))) ((ps.map (·.2)).flatMap fun x => namesD (S.ev x)) S dst i acts k) ∧
  (∀ {C : Ctx} {S : St} {dst : Option Nat} {k : Acts → St → Prop} {b0 : Nat} {i : Nat} {acts : Acts} {t : Nat} {x : O} {lo hi mx : Option O}, dDo C b0 S dst i acts k (.slice t x lo hi mx) = valD (sliceA (tiOf C.P) t (S.ev x) (lo.map S.ev) (hi.map S.ev) (mx.map S.ev)) ((x :: (lo.toList ++ hi.toList ++ mx.toList)).flatMap fun x => namesD (S.ev x)) S dst i acts k) ∧
  (∀ {C : Ctx} {S : St} {dst : Option Nat} {k : Acts → St → Prop} {b0 : Nat} {i : Nat} {acts : Acts} {f : Nat} {a c : List O}, dDo C b0 S dst i acts k (.mkfn f a c) = valD (mkfnA f (allD (a.map S.ev)) (allD (c.map S.ev))) ((a ++ c).flatMap fun x => namesD (S.ev x)) S dst i acts k) ∧
  (∀ {C : Ctx} {S : St} {dst : Option Nat} {k : Acts → St → Prop} {b0 : Nat} {i : Nat} {acts : Acts} {t : Nat}, dDo C b0 S dst i acts k (.mkmap t) = k ((i, [], [b0 + 16 * i]) :: acts) (St.set ⟨S.T, (b0 + 16 * i, some (.map [])) :: S.H, S.nx⟩ dst (some (.mp (b0 + 16 * i))))) ∧
  (∀ {C : Ctx} {S : St} {dst : Option Nat} {k : Acts → St → Prop} {b0 : Nat} {i : Nat} {acts : Acts} {x : O}, dDo C b0 S dst i acts k (.mv x) = k ((i, (namesD (S.ev x) ++ []), []) :: acts) (S.set dst (S.ev x))) ∧
  (∀ {C : Ctx} {S : St} {dst : Option Nat} {k : Acts → St → Prop} {b0 : Nat} {i : Nat} {acts : Acts} {c a b : O}, dDo C b0 S dst i acts k (.pick c a b) = valD (pickA (S.ev c) (S.ev a) (S.ev b)) (namesD (S.ev c) ++ (namesD (S.ev a) ++ (namesD (S.ev b) ++ []))) S dst i acts k) ∧
  (∀ {C : Ctx} {S : St} {dst : Option Nat} {k : Acts → St → Prop} {b0 : Nat} {i : Nat} {acts : Acts} {t : Nat}, dDo C b0 S dst i acts k (.alloc t) = effD (allocA (tiOf C.P t) (b0 + 16 * i)) [] S dst i acts k) ∧
  (∀ {C : Ctx} {S : St} {dst : Option Nat} {k : Acts → St → Prop} {b0 : Nat} {i : Nat} {acts : Acts} {t : Nat} {x : O}, dDo C b0 S dst i acts k (.box t x) = effD (boxA (b0 + 16 * i) (S.ev x)) (namesD (S.ev x) ++ []) S dst i acts k) ∧
  (∀ {C : Ctx} {S : St} {dst : Option Nat} {k : Acts → St → Prop} {b0 : Nat} {i : Nat} {acts : Acts} {t : Nat} {a : O}, dDo C b0 S dst i acts k (.load t a) = valD (loadA (tiOf C.P t) S.blk (S.ev a)) (namesD (S.ev a) ++ []) S dst i acts k) ∧
  (∀ {C : Ctx} {S : St} {dst : Option Nat} {k : Acts → St → Prop} {b0 : Nat} {i : Nat} {acts : Acts} {t : Nat} {a x : O}, dDo C b0 S dst i acts k (.store t a x) = effD (storeA (tiOf C.P t) S.blk (S.ev a) (S.ev x)) (namesD (S.ev a) ++ (namesD (S.ev x) ++ [])) S dst i acts k) ∧
  (∀ {C : Ctx} {S : St} {dst : Option Nat} {k : Acts → St → Prop} {b0 : Nat} {i : Nat} {acts : Acts} {x : O}, dDo C b0 S dst i acts k (.nilck x) = valD (nilckA (S.ev x)) (namesD (S.ev x) ++ []) S dst i acts k) ∧
  (∀ {C : Ctx} {S : St} {dst : Option Nat} {k : Acts → St → Prop} {b0 : Nat} {i : Nat} {acts : Acts} {o : BinOp} {t : Nat} {x y : O}, dDo C b0 S dst i acts k (.bin o t x y) = valD (binA (tiOf C.P) o t (S.ev x) (S.ev y)) (namesD (S.ev x) ++ (namesD (S.ev y) ++ [])) S dst i acts k) ∧
  (∀ {C : Ctx} {S : St} {dst : Option Nat} {k : Acts → St → Prop} {b0 : Nat} {i : Nat} {acts : Acts} {o : UnOp} {x : O}, dDo C b0 S dst i acts k (.un o x) = valD (unA o (S.ev x)) (namesD (S.ev x) ++ []) S dst i acts k) ∧
  (∀ {C : Ctx} {S : St} {dst : Option Nat} {k : Acts → St → Prop} {b0 : Nat} {i : Nat} {acts : Acts} {s d : Nat} {x : O}, dDo C b0 S dst i acts k (.conv s d x) = valD (convA (tiOf C.P s) (tiOf C.P d) (S.ev x)) (namesD (S.ev x) ++ []) S dst i acts k) ∧
  (∀ {C : Ctx} {S : St} {dst : Option Nat} {k : Acts → St → Prop} {b0 : Nat} {i : Nat} {acts : Acts} {t : Nat} {l c : O}, dDo C b0 S dst i acts k (.mksl t l c) = effD (mkslA (tiOf C.P) t (b0 + 16 * i) (S.ev l) (S.ev c)) (namesD (S.ev l) ++ (namesD (S.ev c) ++ [])) S dst i acts k) ∧
  (∀ {C : Ctx} {S : St} {dst : Option Nat} {k : Acts → St → Prop} {b0 : Nat} {i : Nat} {acts : Acts} {t : Nat} {x : O} {f : Nat}, dDo C b0 S dst i acts k (.faddr t x f) = valD (faddrA (tiOf C.P t) f (S.ev x)) (namesD (S.ev x) ++ []) S dst i acts k) ∧
  (∀ {C : Ctx} {S : St} {dst : Option Nat} {k : Acts → St → Prop} {b0 : Nat} {i : Nat} {acts : Acts} {t : Nat} {x j : O}, dDo C b0 S dst i acts k (.iaddr t x j) = valD (iaddrA (tiOf C.P) t (S.ev x) (S.ev j)) (namesD (S.ev x) ++ (namesD (S.ev j) ++ [])) S dst i acts k) ∧
  (∀ {C : Ctx} {S : St} {dst : Option Nat} {k : Acts → St → Prop} {b0 : Nat} {i : Nat} {acts : Acts} {t : Nat} {x j : O} {ok : Bool}, dDo C b0 S dst i acts k (.lkp t x j ok) = valD (lkpA (tiOf C.P) S.blk t ok (S.ev x) (S.ev j)) (namesD (S.ev x) ++ (namesD (S.ev j) ++ [])) S dst i acts k) ∧
  (∀ {C : Ctx} {S : St} {dst : Option Nat} {k : Acts → St → Prop} {b0 : Nat} {i : Nat} {acts : Acts} {t : Nat} {m y v : O}, dDo C b0 S dst i acts k (.mupd t m y v) = effD (mupdA (tiOf C.P) S.blk t (S.ev m) (S.ev y) (S.ev v)) (namesD (S.ev m) ++ (namesD (S.ev y) ++ (namesD (S.ev v) ++ []))) S dst i acts k) ∧
  (∀ {C : Ctx} {S : St} {dst : Option Nat} {k : Acts → St → Prop} {b0 : Nat} {i : Nat} {acts : Acts} {x : O} {j : Nat}, dDo C b0 S dst i acts k (.ext x j) = valD (extA j (S.ev x)) (namesD (S.ev x) ++ []) S dst i acts k) ∧
  (∀ {C : Ctx} {S : St} {dst : Option Nat} {k : Acts → St → Prop} {b0 : Nat} {i : Nat} {acts : Acts} {t : Nat} {x : O}, dDo C b0 S dst i acts k (.len t x) = valD (lenA (tiOf C.P) S.blk t (S.ev x)) (namesD (S.ev x) ++ []) S dst i acts k) ∧
  (∀ {C : Ctx} {S : St} {dst : Option Nat} {k : Acts → St → Prop} {b0 : Nat} {i : Nat} {acts : Acts} {t : Nat} {x : O}, dDo C b0 S dst i acts k (.cap t x) = valD (capA (tiOf C.P) t (S.ev x)) (namesD (S.ev x) ++ []) S dst i acts k) ∧
  (∀ {C : Ctx} {S : St} {dst : Option Nat} {k : Acts → St → Prop} {b0 : Nat} {i : Nat} {acts : Acts} {t u : Nat} {x y : O}, dDo C b0 S dst i acts k (.app t u x y) = effD (appA (tiOf C.P) S.blk t u (b0 + 16 * i) (S.ev x) (S.ev y)) (namesD (S.ev x) ++ (namesD (S.ev y) ++ [])) S dst i acts k) ∧
  (∀ {C : Ctx} {S : St} {dst : Option Nat} {k : Acts → St → Prop} {b0 : Nat} {i : Nat} {acts : Acts} {t u : Nat} {x y : O}, dDo C b0 S dst i acts k (.copy t u x y) = effD (copyA (tiOf C.P) S.blk t u (S.ev x) (S.ev y)) (namesD (S.ev x) ++ (namesD (S.ev y) ++ [])) S dst i acts k) ∧
  (∀ {C : Ctx} {S : St} {dst : Option Nat} {k : Acts → St → Prop} {b0 : Nat} {i : Nat} {acts : Acts} {t : Nat} {x : O}, dDo C b0 S dst i acts k (.clear t x) = effD (clearA (tiOf C.P) S.blk t (S.ev x)) (namesD (S.ev x) ++ []) S dst i acts k) ∧
  (∀ {C : Ctx} {S : St} {dst : Option Nat} {k : Acts → St → Prop} {b0 : Nat} {i : Nat} {acts : Acts} {x y : O}, dDo C b0 S dst i acts k (.max x y) = valD (maxA (S.ev x) (S.ev y)) (namesD (S.ev x) ++ (namesD (S.ev y) ++ [])) S dst i acts k) ∧
  (∀ {C : Ctx} {S : St} {dst : Option Nat} {k : Acts → St → Prop} {b0 : Nat} {i : Nat} {acts : Acts} {x y : O}, dDo C b0 S dst i acts k (.min x y) = valD (minA (S.ev x) (S.ev y)) (namesD (S.ev x) ++ (namesD (S.ev y) ++ [])) S dst i acts k) ∧
  (∀ {b r c : Nat}, namesD (some (.ptr b r c)) = [b]) ∧
  (∀ {k b s n : Nat}, namesD (some (.sl k b s n)) = [b]) ∧
  (∀ {b : Nat}, namesD (some (.mp b)) = [b]) ∧
  (∀ {kk : IntKind} {n : Int}, namesD (some (.int kk n)) = []) ∧
  (∀ {b : Bool}, namesD (some (.bool b)) = []) ∧
  (∀ {k : Nat} {rows : List (List DV)}, namesD (some (.fz k rows)) = []) ∧
  (∀ {rows : List DV}, namesD (some (.fp rows)) = []) ∧
  (∀ {rows : List DV}, namesD (some (.agg rows)) = []) ∧
  (∀ {rows : List DV}, namesD (some (.tup rows)) = []) ∧
  (∀ {f : Nat} {a c : List DV}, namesD (some (.fn f a c)) = []) ∧
  (namesD (some .nilsl) = []) ∧
  (namesD none = []) :=
  ⟨by intros; exact drW_eq, by intros; exact dwS_nil, by intros; exact dwS_go, by intros; exact dwS_gd, by intros; exact ddS_eq, by intros; exact dsS_eq, by intros; exact valD_some, by intros; exact effD_some, by intros; exact dd_call, by intros; exact dd_build, by intros; exact dd_bsl, by intros; exact dd_slice, by intros; exact dd_mkfn, by intros; exact dd_mkmap, by intros; exact dd_mv, by intros; exact dd_pick, by intros; exact dd_alloc, by intros; exact dd_box, by intros; exact dd_load, by intros; exact dd_store, by intros; exact dd_nilck, by intros; exact dd_bin, by intros; exact dd_un, by intros; exact dd_conv, by intros; exact dd_mksl, by intros; exact dd_faddr, by intros; exact dd_iaddr, by intros; exact dd_lkp, by intros; exact dd_mupd, by intros; exact dd_ext, by intros; exact dd_len, by intros; exact dd_cap, by intros; exact dd_app, by intros; exact dd_copy, by intros; exact dd_clear, by intros; exact dd_max, by intros; exact dd_min, by intros; exact namesD_ptr, by intros; exact namesD_sl, by intros; exact namesD_mp, by intros; exact namesD_int, by intros; exact namesD_bool, by intros; exact namesD_fz, by intros; exact namesD_fp, by intros; exact namesD_agg, by intros; exact namesD_tup, by intros; exact namesD_fn, by intros; exact namesD_nilsl, by intros; exact namesD_none⟩
theorem IN : (∀ {k : IntKind} {x : Int} {y : Int}, intA .add k x y = some (.int k (k.wrap (x + y)))) ∧
  (∀ {k : IntKind} {x : Int} {y : Int}, intA .sub k x y = some (.int k (k.wrap (x - y)))) ∧
  (∀ {k : IntKind} {x : Int} {y : Int}, intA .mul k x y = some (.int k (k.wrap (x * y)))) ∧
  (∀ {k : IntKind} {x : Int} {y : Int}, intA .quo k x y = if y = 0 then none else some (.int k (k.wrap (x.tdiv y)))) ∧
  (∀ {k : IntKind} {x : Int} {y : Int}, intA .rem k x y = if y = 0 then none else some (.int k (x.tmod y))) ∧
  (∀ {k : IntKind} {x : Int} {y : Int}, intA .eql k x y = some (.bool (decide (x = y)))) ∧
  (∀ {k : IntKind} {x : Int} {y : Int}, intA .neq k x y = some (.bool (!decide (x = y)))) ∧
  (∀ {k : IntKind} {x : Int} {y : Int}, intA .lss k x y = some (.bool (decide (x < y)))) ∧
  (∀ {k : IntKind} {x : Int} {y : Int}, intA .leq k x y = some (.bool (decide (x ≤ y)))) ∧
  (∀ {k : IntKind} {x : Int} {y : Int}, intA .gtr k x y = some (.bool (decide (y < x)))) ∧
  (∀ {k : IntKind} {x : Int} {y : Int}, intA .geq k x y = some (.bool (decide (y ≤ x)))) ∧
  (∀ {x : Int} {y : Int}, intA .or .u64 x y = some (.int .u64 (orU x y))) ∧
  (∀ {x : Int} {y : Int}, intA .and .i64 x y = some (.int .i64 (andI x y))) ∧
  (∀ {x : Int} {y : Int}, intA .xor .i64 x y = some (.int .i64 (xorI x y))) :=
  ⟨by intros; exact intA_add, by intros; exact intA_sub, by intros; exact intA_mul, by intros; exact intA_quo, by intros; exact intA_rem, by intros; exact intA_eql, by intros; exact intA_neq, by intros; exact intA_lss, by intros; exact intA_leq, by intros; exact intA_gtr, by intros; exact intA_geq, by intros; exact intA_oru, by intros; exact intA_andi, by intros; exact intA_xori⟩
theorem EX : (∀ {α : Type} (k : Nat) (v : Option α) (r : List (Nat × Option α)) (t : Nat), lkO ((k, v) :: r) t = if k = t then v else lkO r t) ∧
  (∀ {α β : Type} (f : α → β) (a : α) (l : List α), List.map f (a :: l) = f a :: List.map f l) ∧
  (∀ {α β : Type} (f : α → β), List.map f [] = []) ∧
  (∀ {α β : Type} (a : α) (f : α → β), Option.map f (some a) = some (f a)) ∧
  (∀ {α β : Type} (f : α → β), Option.map f none = none) ∧
  (∀ {α : Type} {a : α} {r s : List α}, (a :: r) ++ s = a :: (r ++ s)) ∧
  (∀ {α : Type} (r : List α), [] ++ r = r) :=
  ⟨by intros; first | exact lkO_cons | exact lkO_cons _ | exact lkO_cons _ _ | exact lkO_cons _ _ _ | rfl, by intros; first | exact List.map_cons | exact List.map_cons _ | exact List.map_cons _ _ | exact List.map_cons _ _ _ | rfl, by intros; first | exact List.map_nil | exact List.map_nil _ | exact List.map_nil _ _ | exact List.map_nil _ _ _ | rfl, by intros; first | exact Option.map_some | exact Option.map_some _ | exact Option.map_some _ _ | exact Option.map_some _ _ _ | rfl, by intros; first | exact Option.map_none | exact Option.map_none _ | exact Option.map_none _ _ | exact Option.map_none _ _ _ | rfl, by intros; first | exact List.cons_append | exact List.cons_append _ | exact List.cons_append _ _ | exact List.cons_append _ _ _ | rfl, by intros; first | exact List.nil_append | exact List.nil_append _ | exact List.nil_append _ _ | exact List.nil_append _ _ _ | rfl⟩
theorem DX : (∀ {α : Type} (r : List α), r ++ [] = r) ∧
  (∀ {α : Type} (a : α) (r : List α), (a :: r).length = r.length + 1) ∧
  (∀ {α : Type}, ([] : List α).length = 0) ∧
  (∀ {α : Type} (a : α), (some a).toList = [a]) ∧
  (∀ {α : Type}, (none : Option α).toList = []) ∧
  (∀ {α β : Type} (a : α) (r : List α) (f : α → List β), List.flatMap f (a :: r) = f a ++ List.flatMap f r) ∧
  (∀ {α β : Type} (f : α → List β), List.flatMap f [] = []) :=
  ⟨by intros; first | exact List.append_nil | exact List.append_nil _ | exact List.append_nil _ _ | exact List.append_nil _ _ _ | rfl, by intros; first | exact List.length_cons | exact List.length_cons _ | exact List.length_cons _ _ | exact List.length_cons _ _ _ | rfl, by intros; first | exact List.length_nil | exact List.length_nil _ | exact List.length_nil _ _ | exact List.length_nil _ _ _ | rfl, by intros; first | exact Option.toList_some | exact Option.toList_some _ | exact Option.toList_some _ _ | exact Option.toList_some _ _ _ | rfl, by intros; first | exact Option.toList_none | exact Option.toList_none _ | exact Option.toList_none _ _ | exact Option.toList_none _ _ _ | rfl, by intros; first | exact List.flatMap_cons | exact List.flatMap_cons _ | exact List.flatMap_cons _ _ | exact List.flatMap_cons _ _ _ | rfl, by intros; first | exact List.flatMap_nil | exact List.flatMap_nil _ | exact List.flatMap_nil _ _ | exact List.flatMap_nil _ _ _ | rfl⟩
theorem MX : (∀ {T : List (Nat × Option DV)} {H : List (Nat × Option Blk)} {nx t : Nat}, St.blk ⟨T, H, nx⟩ t = lkO H t) ∧
  (∀ {α : Type} {a b : α} {r : List α}, List.set (a :: r) 0 b = b :: r) ∧
  (∀ {α : Type} {a b : α} {n : Nat} {r : List α}, List.set (a :: r) (n + 1) b = a :: List.set r n b) ∧
  (∀ {α : Type} {p : α → Bool} {a : α} {r : List α}, List.all (a :: r) p = (p a && List.all r p)) ∧
  (∀ {α : Type} {p : α → Bool}, List.all [] p = true) ∧
  (∀ (b : Bool), (b && b) = b) ∧
  (∀ (p : Prop), (p ∧ p) = p) ∧
  (∀ {α : Type} (a : α) (r : List α), (a :: r).length = r.length + 1) ∧
  (∀ {α : Type}, ([] : List α).length = 0) ∧
  (∀ {α : Type} {a : α} {r : List α}, (a :: r)[0]? = some a) ∧
  (∀ {α : Type} {a : α} {r : List α} {n : Nat}, (a :: r)[n + 1]? = r[n]?) ∧
  (∀ {α : Type} {r : List α}, List.drop 0 r = r) ∧
  (∀ {α : Type} {a : α} {r : List α} {n : Nat}, List.drop (n + 1) (a :: r) = List.drop n r) ∧
  (∀ {α : Type} {a : α} {r : List α} {n : Nat}, List.take (n + 1) (a :: r) = a :: List.take n r) ∧
  (∀ {α : Type} {r : List α}, List.take 0 r = []) ∧
  (∀ (n : Nat), 0 + n = n) ∧
  (∀ (n : Nat), n + 0 = n) ∧
  (∀ (n : Nat), n ≤ n) ∧
  (∀ (n : Nat), Int.toNat (n : Int) = n) :=
  ⟨by intros; first | exact blk_mk | exact blk_mk _ | exact blk_mk _ _ | exact blk_mk _ _ _ | rfl, by intros; first | exact List.set_cons_zero | exact List.set_cons_zero _ | exact List.set_cons_zero _ _ | exact List.set_cons_zero _ _ _ | rfl, by intros; first | exact List.set_cons_succ | exact List.set_cons_succ _ | exact List.set_cons_succ _ _ | exact List.set_cons_succ _ _ _ | rfl, by intros; first | exact List.all_cons | exact List.all_cons _ | exact List.all_cons _ _ | exact List.all_cons _ _ _ | rfl, by intros; first | exact List.all_nil | exact List.all_nil _ | exact List.all_nil _ _ | exact List.all_nil _ _ _ | rfl, by intros; first | exact Bool.and_self | exact Bool.and_self _ | exact Bool.and_self _ _ | exact Bool.and_self _ _ _ | rfl, fun p => and_self p, by intros; first | exact List.length_cons | exact List.length_cons _ | exact List.length_cons _ _ | exact List.length_cons _ _ _ | rfl, by intros; first | exact List.length_nil | exact List.length_nil _ | exact List.length_nil _ _ | exact List.length_nil _ _ _ | rfl, by intros; first | exact List.getElem?_cons_zero | exact List.getElem?_cons_zero _ | exact List.getElem?_cons_zero _ _ | exact List.getElem?_cons_zero _ _ _ | rfl, by intros; first | exact List.getElem?_cons_succ | exact List.getElem?_cons_succ _ | exact List.getElem?_cons_succ _ _ | exact List.getElem?_cons_succ _ _ _ | rfl, by intros; first | exact List.drop_zero | exact List.drop_zero _ | exact List.drop_zero _ _ | exact List.drop_zero _ _ _ | rfl, by intros; first | exact List.drop_succ_cons | exact List.drop_succ_cons _ | exact List.drop_succ_cons _ _ | exact List.drop_succ_cons _ _ _ | rfl, by intros; first | exact List.take_succ_cons | exact List.take_succ_cons _ | exact List.take_succ_cons _ _ | exact List.take_succ_cons _ _ _ | rfl, by intros; first | exact List.take_zero | exact List.take_zero _ | exact List.take_zero _ _ | exact List.take_zero _ _ _ | rfl, by intros; first | exact Nat.zero_add | exact Nat.zero_add _ | exact Nat.zero_add _ _ | exact Nat.zero_add _ _ _ | rfl, by intros; first | exact Nat.add_zero | exact Nat.add_zero _ | exact Nat.add_zero _ _ | exact Nat.add_zero _ _ _ | rfl, by intros; first | exact Nat.le_refl | exact Nat.le_refl _ | exact Nat.le_refl _ _ | exact Nat.le_refl _ _ _ | rfl, by intros; first | exact Int.toNat_natCast | exact Int.toNat_natCast _ | exact Int.toNat_natCast _ _ | exact Int.toNat_natCast _ _ _ | rfl⟩
end Go.Fv
/- CONTRACTS: sat. -/
namespace Go.Fv
open Go.Proofs

def satEnd (b : Bool) : Int := if b then -9223372036854775808 else 9223372036854775807

theorem s_end (b : Bool) : Pure Try.prog 76 [.bool b] (.tup [.int .i64 (satEnd b), .bool false]) := by
  refine Spec.walk ok76 fun C Q hP hN hQ => ?_
  unfold c76
  simp only [EV, EX, hP, reduceIte, Nat.reduceEqDiff, Nat.reduceAdd, Nat.reduceSub]
  refine condS_i (fun h => ?_) (fun h => ?_) <;> subst h <;> simp only [EV, EX, hP, reduceIte, Nat.reduceEqDiff, Nat.reduceAdd, Nat.reduceSub] <;> exact hQ _ <| retQ_pure _ rfl rfl ⟨rfl, rfl⟩

/-- Sums that stay in the bounds. -/
def satAdd (a b : Int) : Int × Bool := if 9223372036854775807 < a + b then (9223372036854775807, false) else if a + b < -9223372036854775808 then (-9223372036854775808, false) else (a + b, true)

theorem s_Add (a b : Int) (ha : i64r a) (hb : i64r b) : Pure Try.prog 56 [.int .i64 a, .int .i64 b] (.tup [.int .i64 (satAdd a b).1, .bool (satAdd a b).2]) := by
  refine Spec.walk ok56 fun C Q hP hN hQ => ?_
  unfold c56
  simp only [EV, EX, hP, reduceIte, Nat.reduceEqDiff, Nat.reduceAdd, Nat.reduceSub, ty2, ty50, convA, binA, intA, bits_i64, ofInt_i64, ofInt_toNat, BitVec.ofInt_toInt, wrap_toNat, wrap_iu, wrap_iuu]
  have e := i64r_wrap (a + b)
  refine condS_d (fun h => ?_) (fun h => ?_)
  · have h := Eq.mp (add_neg a b ha hb) h
    unfold i64r at ha hb
    simp only [EV, EX, hP, reduceIte, Nat.reduceEqDiff, Nat.reduceAdd, Nat.reduceSub]
    refine callW_pure hP (s_end _) rfl rfl ?_
    simp only [EV, EX, hP, reduceIte, Nat.reduceEqDiff, Nat.reduceAdd, Nat.reduceSub, extA, List.getElem?_cons_zero, List.getElem?_cons_succ]
    refine hQ _ <| retQ_pure _ rfl rfl ⟨?_, rfl⟩
    simp only [retV, satEnd, satAdd, decide_eq_true_eq]
    rcases h with h | h
    · rw [if_pos h, if_neg (by omega)]
    · rw [if_neg (by omega : ¬ 9223372036854775807 < a + b), if_pos h, if_pos (by omega)]
  · have h := not_or.1 fun x => h (Eq.mpr (add_neg a b ha hb) x)
    unfold i64r at ha hb
    simp only [EV, EX, hP, reduceIte, Nat.reduceEqDiff, Nat.reduceAdd, Nat.reduceSub]
    refine hQ _ <| retQ_pure _ rfl rfl ⟨?_, rfl⟩
    have h1 : IntKind.i64.wrap (a + b) = a + b := wrap_i64 (by omega) (by omega)
    simp only [retV, satAdd, h1]
    rw [if_neg (by omega), if_neg (by omega)]

theorem wrap_u64_neg {n : Int} (h1 : -18446744073709551616 ≤ n) (h2 : n < 0) : IntKind.u64.wrap n = n + 18446744073709551616 := by
  simp only [IntKind.wrap, IntKind.bits, IntKind.signed]; simp; omega

theorem s_size (v : Int) (hv : i64r v) : Pure Try.prog 75 [.int .i64 v] (.int .u64 (if v < 0 then -v else v)) := by
  unfold i64r at hv
  refine Spec.walk ok75 fun C Q hP hN hQ => ?_
  unfold c75
  simp only [EV, EX, hP, reduceIte, Nat.reduceEqDiff, Nat.reduceAdd, Nat.reduceSub, ty2, ty50, convA, binA, intA, unA]
  refine condS_d (fun h => ?_) (fun h => ?_)
  · simp only [EV, EX, hP, reduceIte, Nat.reduceEqDiff, Nat.reduceAdd, Nat.reduceSub, ty2, ty50, convA, binA, intA, unA]
    refine hQ _ <| retQ_pure _ rfl rfl ⟨?_, rfl⟩
    simp only [retV, if_pos h]
    rw [wrap_u64_neg (n := v) (by omega) h, wrap_u64_neg (by omega) (by omega)]
    congr 1; omega
  · simp only [EV, EX, hP, reduceIte, Nat.reduceEqDiff, Nat.reduceAdd, Nat.reduceSub, ty2, ty50, convA, binA, intA, unA]
    refine hQ _ <| retQ_pure _ rfl rfl ⟨?_, rfl⟩
    simp only [retV, if_neg h]
    rw [wrap_u64 (by omega) (by omega)]

/-- Quotients upward. -/
def satUp (a b : Int) : Int × Bool := if b < 1 ∨ a < 0 then (0, false) else ((a + b - 1) / b, true)

theorem up_eq {a b : Int} (hb : 1 ≤ b) (ha : 0 ≤ a) : (a + b - 1) / b = if 0 < a.tmod b then a.tdiv b + 1 else a.tdiv b := by
  have h1 : a.tdiv b = a / b := Int.tdiv_eq_ediv_of_nonneg ha
  have h2 : a.tmod b = a % b := Int.tmod_eq_emod_of_nonneg ha
  rw [h1, h2]
  have h3 := Int.emod_add_mul_ediv a b
  have h4 := Int.emod_nonneg a (show b ≠ 0 by omega)
  have h5 := Int.emod_lt_of_pos a (show 0 < b by omega)
  split
  · rename_i h
    have : a + b - 1 = (a % b - 1) + b * (a / b + 1) := by rw [Int.mul_add]; omega
    rw [this, Int.add_mul_ediv_left _ _ (by omega), Int.ediv_eq_zero_of_lt (by omega) (by omega)]; omega
  · rename_i h
    have : a + b - 1 = (b - 1) + b * (a / b) := by omega
    rw [this, Int.add_mul_ediv_left _ _ (by omega), Int.ediv_eq_zero_of_lt (by omega) (by omega)]; omega

theorem s_Up (a b : Int) (ha : i64r a) (hb : i64r b) : Pure Try.prog 58 [.int .i64 a, .int .i64 b] (.tup [.int .i64 (satUp a b).1, .bool (satUp a b).2]) := by
  unfold i64r at ha hb
  refine Spec.walk ok58 fun C Q hP hN hQ => ?_
  unfold c58
  simp only [EV, EX, hP, reduceIte, Nat.reduceEqDiff, Nat.reduceAdd, Nat.reduceSub, ty2, convA, binA, intA, unA]
  refine gdS_fd (fun h => ?_) (fun h => ?_)
  · simp only [EV, EX, hP, reduceIte, Nat.reduceEqDiff, Nat.reduceAdd, Nat.reduceSub, ty2, convA, binA, intA, unA, pickA, h, decide_false]
    refine condS_d (fun h2 => ?_) (fun h2 => ?_)
    · simp only [EV, EX, hP, reduceIte, Nat.reduceEqDiff, Nat.reduceAdd, Nat.reduceSub]
      refine hQ _ <| retQ_pure _ rfl rfl ⟨?_, rfl⟩
      simp only [retV, satUp]
      rw [if_pos (Or.inr h2)]
    · have hb0 : ¬ b = 0 := by omega
      simp only [EV, EX, hP, reduceIte, Nat.reduceEqDiff, Nat.reduceAdd, Nat.reduceSub, ty2, binA, intA, hb0, if_false]
      have hq : 0 ≤ a.tdiv b ∧ a.tdiv b ≤ a := by
        rw [Int.tdiv_eq_ediv_of_nonneg (by omega)]
        exact ⟨Int.ediv_nonneg (by omega) (by omega), Int.ediv_le_self b (by omega)⟩
      have hq1 : b = 1 ∨ a.tdiv b < a ∨ a = 0 := by
        rw [Int.tdiv_eq_ediv_of_nonneg (by omega)]
        by_cases hb1 : b = 1
        · exact .inl hb1
        · by_cases ha0 : a = 0
          · exact .inr (.inr ha0)
          · exact .inr (.inl (Int.ediv_lt_self_of_pos_of_ne_one (by omega) (by omega)))
      have hu := up_eq (a := a) (b := b) (by omega) (by omega)
      refine condS_d (fun h3 => ?_) (fun h3 => ?_)
      · simp only [EV, EX, hP, reduceIte, Nat.reduceEqDiff, Nat.reduceAdd, Nat.reduceSub, ty2, binA, intA]
        refine hQ _ <| retQ_pure _ rfl rfl ⟨?_, rfl⟩
        simp only [retV, satUp]
        rw [if_neg (by omega : ¬ (b < 1 ∨ a < 0)), hu, if_pos h3, wrap_i64 (n := a.tdiv b) (by omega) (by omega), wrap_i64 (by omega) ?_]
        rcases hq1 with rfl | h5 | h5
        · simp at h3
        · omega
        · subst h5; simp
      · simp only [EV, EX, hP, reduceIte, Nat.reduceEqDiff, Nat.reduceAdd, Nat.reduceSub, ty2, binA, intA]
        refine hQ _ <| retQ_pure _ rfl rfl ⟨?_, rfl⟩
        simp only [retV, satUp]
        rw [if_neg (by omega : ¬ (b < 1 ∨ a < 0)), hu, if_neg h3, wrap_i64 (by omega) (by omega)]
  · simp only [EV, EX, hP, reduceIte, Nat.reduceEqDiff, Nat.reduceAdd, Nat.reduceSub, pickA, h, decide_true]
    refine hQ _ <| retQ_pure _ rfl rfl ⟨?_, rfl⟩
    simp only [retV, satUp]
    rw [if_pos (Or.inl h)]
end Go.Fv
/- CONTRACTS: sat, products. -/
namespace Go.Fv
open Go.Proofs

theorem w_low (a : Int) : IntKind.u64.wrap (IntKind.u32.wrap a) = a % 4294967296 := by
  simp only [IntKind.wrap, IntKind.bits, IntKind.signed]; simp; omega
theorem fdiv_32 (a : Int) : a.fdiv 4294967296 = a / 4294967296 := Int.fdiv_eq_ediv_of_nonneg a (by omega)

/-- The halves of a product. -/
theorem halves {a b : Int} : a * b = (a / 4294967296 * (b / 4294967296)) * 18446744073709551616 + (a / 4294967296 * (b % 4294967296) + a % 4294967296 * (b / 4294967296)) * 4294967296 + a % 4294967296 * (b % 4294967296) := by
  have h1 : a = a / 4294967296 * 4294967296 + a % 4294967296 := by omega
  have h2 : b = b / 4294967296 * 4294967296 + b % 4294967296 := by omega
  generalize a / 4294967296 = x at *
  generalize a % 4294967296 = y at *
  generalize b / 4294967296 = z at *
  generalize b % 4294967296 = t at *
  subst h1; subst h2
  simp only [Int.add_mul, Int.mul_add]
  have e1 : x * 4294967296 * (z * 4294967296) = x * z * 18446744073709551616 := by
    rw [Int.mul_assoc, Int.mul_left_comm 4294967296 z, ← Int.mul_assoc x z]; rfl
  have e2 : x * 4294967296 * t = x * t * 4294967296 := by rw [Int.mul_right_comm]
  have e3 : y * (z * 4294967296) = y * z * 4294967296 := by rw [Int.mul_assoc]
  rw [e1, e2, e3]
  omega

theorem mul_lt {x y m n : Int} (hx : 0 ≤ x) (hy : 0 ≤ y) (hxm : x ≤ m) (hyn : y ≤ n) : 0 ≤ x * y ∧ x * y ≤ m * n :=
  ⟨Int.mul_nonneg hx hy, Int.mul_le_mul hxm hyn hy (Int.le_trans hx hxm)⟩

theorem s_times (a b : Int) (ha : 0 ≤ a ∧ a ≤ 18446744073709551615) (hb : 0 ≤ b ∧ b ≤ 18446744073709551615) : ∃ x, 0 ≤ x ∧ x ≤ 18446744073709551615 ∧
    Pure Try.prog 74 [.int .u64 a, .int .u64 b] (.tup [.int .u64 x, .bool (decide (a * b ≤ 18446744073709551615))]) ∧ (a * b ≤ 18446744073709551615 → x = a * b) := by
  -- what it comes to, once it is told which part is nought
  have hH := @halves a b
  have hal : 0 ≤ a % 4294967296 ∧ a % 4294967296 ≤ 4294967295 := by omega
  have hbl : 0 ≤ b % 4294967296 ∧ b % 4294967296 ≤ 4294967295 := by omega
  have hah : 0 ≤ a / 4294967296 ∧ a / 4294967296 ≤ 4294967295 := by omega
  have hbh : 0 ≤ b / 4294967296 ∧ b / 4294967296 ≤ 4294967295 := by omega
  have m1 := mul_lt hal.1 hbl.1 hal.2 hbl.2
  have m2 := mul_lt hah.1 hbl.1 hah.2 hbl.2
  have m3 := mul_lt hal.1 hbh.1 hal.2 hbh.2
  have m4 := mul_lt hah.1 hbh.1 hah.2 hbh.2
  refine ⟨if 0 < a / 4294967296 ∧ 0 < b / 4294967296 then 0 else if 4294967296 ≤ a / 4294967296 * (b % 4294967296) + a % 4294967296 * (b / 4294967296) then 0 else IntKind.u64.wrap (a * b), ?_, ?_, ?_, ?_⟩
  · split
    · omega
    · split
      · omega
      · rw [wrapu64]; omega
  · split
    · omega
    · split
      · omega
      · rw [wrapu64]; omega
  · refine Spec.walk ok74 fun C Q hP hN hQ => ?_
    unfold c74
    simp only [EV, EX, hP, reduceIte, Nat.reduceEqDiff, Nat.reduceAdd, Nat.reduceSub, binA, IN, ty50, ty126, convA, shA, bits_u64, w_low, Int.reduceLT, Int.reduceToNat, min3264, Int.reducePow, fdiv_32]
    refine gdS_td (fun h => ?_) (fun h => ?_)
    · simp only [EV, EX, hP, reduceIte, Nat.reduceEqDiff, Nat.reduceAdd, Nat.reduceSub, binA, IN, pickA, h, decide_true]
      refine gdS_fd (fun h2 => ?_) (fun h2 => ?_)
      · have hz : b / 4294967296 = 0 := by omega
        simp only [EV, EX, hP, reduceIte, Nat.reduceEqDiff, Nat.reduceAdd, Nat.reduceSub, binA, IN, pickA, hz, Int.mul_zero, Int.zero_mul, Int.zero_add, Int.add_zero, wrap_u0, orU_zero, orU_zero', wrap_uu, shA, bits_u64, Int.reduceLT, Int.reduceToNat, min3264, Int.reducePow, fdiv_32, decide_false]
        simp only [hz, Int.mul_zero, Int.zero_mul, Int.add_zero, Int.zero_add] at hH hQ
        have hw : IntKind.u64.wrap ((a / 4294967296 * (b % 4294967296))) = (a / 4294967296 * (b % 4294967296)) := wrap_u64 (by omega) (by omega)
        simp only [hw]
        generalize hm : (a / 4294967296 * (b % 4294967296)) = m at *
        generalize hl : a % 4294967296 * (b % 4294967296) = l at *
        refine condS_d (fun h3 => ?_) (fun h3 => ?_)
        · simp only [EV, EX, hP, reduceIte, Nat.reduceEqDiff, Nat.reduceAdd, Nat.reduceSub]
          refine hQ _ <| retQ_pure _ rfl rfl ⟨?_, rfl⟩
          simp only [retV]
          rw [if_neg (by simp), if_pos (by omega), decide_eq_false (by omega)]
        · simp only [EV, EX, hP, reduceIte, Nat.reduceEqDiff, Nat.reduceAdd, Nat.reduceSub, binA, IN, ty50, shA, bits_u64, Int.reduceLT, Int.reduceToNat, min3264, Int.reducePow, hl]
          refine hQ _ <| retQ_pure _ rfl rfl ⟨?_, rfl⟩
          simp only [retV, show ∀ n : Int, IntKind.u64.wrap n = n % 18446744073709551616 from fun _ => rfl]
          rw [if_neg (by simp), if_neg (by omega)]
          have e1 : (l % 18446744073709551616 + m * 4294967296 % 18446744073709551616) % 18446744073709551616 = a * b % 18446744073709551616 := by omega
          rw [e1]
          congr 3
          refine congrArg DV.bool (decide_eq_decide.2 ?_)
          omega
      · simp only [EV, EX, hP, reduceIte, Nat.reduceEqDiff, Nat.reduceAdd, Nat.reduceSub, pickA, h2, decide_true]
        refine hQ _ <| retQ_pure _ rfl rfl ⟨?_, rfl⟩
        simp only [retV]
        have h5 : 1 ≤ a / 4294967296 * (b / 4294967296) := Int.mul_pos h h2
        rw [if_pos ⟨h, h2⟩, decide_eq_false (by omega)]
    · have hz : a / 4294967296 = 0 := by omega
      simp only [EV, EX, hP, reduceIte, Nat.reduceEqDiff, Nat.reduceAdd, Nat.reduceSub, binA, IN, pickA, hz, Int.mul_zero, Int.zero_mul, Int.zero_add, Int.add_zero, wrap_u0, orU_zero, orU_zero', wrap_uu, shA, bits_u64, Int.reduceLT, Int.reduceToNat, min3264, Int.reducePow, fdiv_32, decide_false, h]
      simp only [hz, Int.mul_zero, Int.zero_mul, Int.add_zero, Int.zero_add] at hH hQ
      have hw : IntKind.u64.wrap ((a % 4294967296 * (b / 4294967296))) = (a % 4294967296 * (b / 4294967296)) := wrap_u64 (by omega) (by omega)
      simp only [hw]
      generalize hm : (a % 4294967296 * (b / 4294967296)) = m at *
      generalize hl : a % 4294967296 * (b % 4294967296) = l at *
      refine condS_d (fun h3 => ?_) (fun h3 => ?_)
      · simp only [EV, EX, hP, reduceIte, Nat.reduceEqDiff, Nat.reduceAdd, Nat.reduceSub]
        refine hQ _ <| retQ_pure _ rfl rfl ⟨?_, rfl⟩
        simp only [retV]
        rw [if_neg (by simp), if_pos (by omega), decide_eq_false (by omega)]
      · simp only [EV, EX, hP, reduceIte, Nat.reduceEqDiff, Nat.reduceAdd, Nat.reduceSub, binA, IN, ty50, shA, bits_u64, Int.reduceLT, Int.reduceToNat, min3264, Int.reducePow, hl]
        refine hQ _ <| retQ_pure _ rfl rfl ⟨?_, rfl⟩
        simp only [retV, show ∀ n : Int, IntKind.u64.wrap n = n % 18446744073709551616 from fun _ => rfl]
        rw [if_neg (by simp), if_neg (by omega)]
        have e1 : (l % 18446744073709551616 + m * 4294967296 % 18446744073709551616) % 18446744073709551616 = a * b % 18446744073709551616 := by omega
        rw [e1]
        congr 3
        refine congrArg DV.bool (decide_eq_decide.2 ?_)
        omega
  · intro hab
    by_cases h5 : 0 < a / 4294967296 ∧ 0 < b / 4294967296
    · have h6 : 1 ≤ a / 4294967296 * (b / 4294967296) := Int.mul_pos h5.1 h5.2
      omega
    · rw [if_neg h5, if_neg (by omega), wrap_u64 (by omega) (by omega)]
end Go.Fv
/- CONTRACTS: sat.Mul. -/
namespace Go.Fv
open Go.Proofs

/-- Products that stay in the bounds. -/
def satMul (a b : Int) : Int × Bool := if 9223372036854775807 < a * b then (9223372036854775807, false) else if a * b < -9223372036854775808 then (-9223372036854775808, false) else (a * b, true)

theorem s_Mul (a b : Int) (ha : i64r a) (hb : i64r b) : Pure Try.prog 55 [.int .i64 a, .int .i64 b] (.tup [.int .i64 (satMul a b).1, .bool (satMul a b).2]) := by
  have sa := s_size a ha
  have sb := s_size b hb
  unfold i64r at ha hb
  obtain ⟨x, hx0, hx1, hs, hx⟩ := s_times (if a < 0 then -a else a) (if b < 0 then -b else b) (by split <;> omega) (by split <;> omega)
  refine Spec.walk ok55 fun C Q hP hN hQ => ?_
  unfold c55
  have key : ∀ s : Bool, s = (!decide (decide (a < 0) = decide (b < 0))) → (if a < 0 then -a else a) * (if b < 0 then -b else b) = if s then -(a * b) else a * b := by
    intro s hs
    by_cases h1 : a < 0 <;> by_cases h2 : b < 0 <;> simp [hs, h1, h2, Int.neg_mul, Int.mul_neg]
  have key2 : ∀ s : Bool, s = (!decide (decide (a < 0) = decide (b < 0))) → s = true → a * b ≤ 0 := by
    intro s hs h
    by_cases h1 : a < 0 <;> by_cases h2 : b < 0
    · simp [hs, h1, h2] at h
    · exact Int.mul_nonpos_of_nonpos_of_nonneg (by omega) (by omega)
    · exact Int.mul_nonpos_of_nonneg_of_nonpos (by omega) (by omega)
    · simp [hs, h1, h2] at h
  have key3 : ∀ s : Bool, s = (!decide (decide (a < 0) = decide (b < 0))) → s = false → 0 ≤ a * b := by
    intro s hs h
    by_cases h1 : a < 0 <;> by_cases h2 : b < 0
    · exact Int.mul_nonneg_of_nonpos_of_nonpos (by omega) (by omega)
    · simp [hs, h1, h2] at h
    · simp [hs, h1, h2] at h
    · exact Int.mul_nonneg (by omega) (by omega)
  simp only [EV, EX, hP, reduceIte, Nat.reduceEqDiff, Nat.reduceAdd, Nat.reduceSub, binA, IN, ty2, ty4, ty50]
  generalize hsb : (!decide (decide (a < 0) = decide (b < 0))) = s
  rw [eq_comm] at hsb
  have k1 := key s hsb
  have k2 := key2 s hsb
  have k3 := key3 s hsb
  generalize hu : (if a < 0 then -a else a) = u at *
  generalize hv : (if b < 0 then -b else b) = v at *
  refine condS_i (fun h => ?_) (fun h => ?_)
  · subst h
    have k2 := k2 rfl
    simp only [if_true] at k1
    simp only [EV, EX, hP, reduceIte, Nat.reduceEqDiff, Nat.reduceAdd, Nat.reduceSub, binA, IN, ty50]
    refine callW_pure hP sa rfl rfl ?_
    simp only [EV, EX, hP, reduceIte, Nat.reduceEqDiff, Nat.reduceAdd, Nat.reduceSub]
    refine callW_pure hP sb rfl rfl ?_
    simp only [EV, EX, hP, reduceIte, Nat.reduceEqDiff, Nat.reduceAdd, Nat.reduceSub]
    refine callW_pure hP hs rfl rfl ?_
    simp only [EV, EX, hP, reduceIte, Nat.reduceEqDiff, Nat.reduceAdd, Nat.reduceSub, binA, IN, extA, List.getElem?_cons_zero, List.getElem?_cons_succ, unA]
    refine gdS_f (fun h1 => ?_) (fun h1 => ?_)
    · have h2 : u * v ≤ 18446744073709551615 := by simpa using h1
      have hx := hx h2
      simp only [EV, EX, hP, reduceIte, Nat.reduceEqDiff, Nat.reduceAdd, Nat.reduceSub, binA, IN, pickA, h1]
      refine condS_d (fun h3 => ?_) (fun h3 => ?_)
      · simp only [EV, EX, hP, reduceIte, Nat.reduceEqDiff, Nat.reduceAdd, Nat.reduceSub]
        refine callW_pure hP (s_end _) rfl rfl ?_
        simp only [EV, EX, hP, reduceIte, Nat.reduceEqDiff, Nat.reduceAdd, Nat.reduceSub, extA, List.getElem?_cons_zero, List.getElem?_cons_succ]
        refine hQ _ <| retQ_pure _ rfl rfl ⟨?_, rfl⟩
        simp only [show IntKind.u64.wrap (9223372036854775807 + 1) = 9223372036854775808 from rfl] at h3
        simp only [retV, satEnd, satMul, if_true]
        rw [if_neg (by omega), if_pos (by omega)]
      · simp only [EV, EX, hP, reduceIte, Nat.reduceEqDiff, Nat.reduceAdd, Nat.reduceSub, binA, IN, unA, convA, ty2, ty50, Nat.reduceEqDiff, blkX_eq]
        refine hQ _ <| retQ_pure _ rfl rfl ⟨?_, rfl⟩
        simp only [show IntKind.u64.wrap (9223372036854775807 + 1) = 9223372036854775808 from rfl] at h3
        simp only [retV, satMul]
        rw [if_neg (by omega), if_neg (by omega), wrap_iu]
        have e : IntKind.i64.wrap (0 - x) = a * b := by rw [wrap_i64 (by omega) (by omega)]; omega
        rw [e]
    · have h2 : ¬ u * v ≤ 18446744073709551615 := by simpa using h1
      simp only [EV, EX, hP, reduceIte, Nat.reduceEqDiff, Nat.reduceAdd, Nat.reduceSub, binA, IN, pickA, h1]
      refine callW_pure hP (s_end _) rfl rfl ?_
      simp only [EV, EX, hP, reduceIte, Nat.reduceEqDiff, Nat.reduceAdd, Nat.reduceSub, extA, List.getElem?_cons_zero, List.getElem?_cons_succ]
      refine hQ _ <| retQ_pure _ rfl rfl ⟨?_, rfl⟩
      simp only [retV, satEnd, satMul, if_true]
      rw [if_neg (by omega), if_pos (by omega)]
  · subst h
    have k2 := k3 rfl
    simp only [Bool.false_eq_true, if_false] at k1
    simp only [EV, EX, hP, reduceIte, Nat.reduceEqDiff, Nat.reduceAdd, Nat.reduceSub, binA, IN, ty50]
    refine callW_pure hP sa rfl rfl ?_
    simp only [EV, EX, hP, reduceIte, Nat.reduceEqDiff, Nat.reduceAdd, Nat.reduceSub]
    refine callW_pure hP sb rfl rfl ?_
    simp only [EV, EX, hP, reduceIte, Nat.reduceEqDiff, Nat.reduceAdd, Nat.reduceSub]
    refine callW_pure hP hs rfl rfl ?_
    simp only [EV, EX, hP, reduceIte, Nat.reduceEqDiff, Nat.reduceAdd, Nat.reduceSub, binA, IN, extA, List.getElem?_cons_zero, List.getElem?_cons_succ, unA]
    refine gdS_f (fun h1 => ?_) (fun h1 => ?_)
    · have h2 : u * v ≤ 18446744073709551615 := by simpa using h1
      have hx := hx h2
      simp only [EV, EX, hP, reduceIte, Nat.reduceEqDiff, Nat.reduceAdd, Nat.reduceSub, binA, IN, pickA, h1]
      refine condS_d (fun h3 => ?_) (fun h3 => ?_)
      · simp only [EV, EX, hP, reduceIte, Nat.reduceEqDiff, Nat.reduceAdd, Nat.reduceSub]
        refine callW_pure hP (s_end _) rfl rfl ?_
        simp only [EV, EX, hP, reduceIte, Nat.reduceEqDiff, Nat.reduceAdd, Nat.reduceSub, extA, List.getElem?_cons_zero, List.getElem?_cons_succ]
        refine hQ _ <| retQ_pure _ rfl rfl ⟨?_, rfl⟩
        simp only [retV, satEnd, satMul, Bool.false_eq_true, if_false]
        rw [if_pos (by omega)]
      · simp only [EV, EX, hP, reduceIte, Nat.reduceEqDiff, Nat.reduceAdd, Nat.reduceSub, binA, IN, unA, convA, ty2, ty50, Nat.reduceEqDiff, blkX_eq]
        refine hQ _ <| retQ_pure _ rfl rfl ⟨?_, rfl⟩
        simp only [retV, satMul]
        rw [if_neg (by omega), if_neg (by omega), wrap_i64 (by omega) (by omega)]
        have e : x = a * b := by omega
        rw [e]
    · have h2 : ¬ u * v ≤ 18446744073709551615 := by simpa using h1
      simp only [EV, EX, hP, reduceIte, Nat.reduceEqDiff, Nat.reduceAdd, Nat.reduceSub, binA, IN, pickA, h1]
      refine callW_pure hP (s_end _) rfl rfl ?_
      simp only [EV, EX, hP, reduceIte, Nat.reduceEqDiff, Nat.reduceAdd, Nat.reduceSub, extA, List.getElem?_cons_zero, List.getElem?_cons_succ]
      refine hQ _ <| retQ_pure _ rfl rfl ⟨?_, rfl⟩
      simp only [retV, satEnd, satMul, Bool.false_eq_true, if_false]
      rw [if_pos (by omega)]
end Go.Fv
/- MADE BY PROGRAM (wip/tools/codes.py). -/
namespace Go.Fv
open Go.Proofs
def c34 : SC :=
(.seq
(.rg [⟨(some 2), (.mv (.c (.bool false))), none⟩])
(.seq
(.seq
(.rg [⟨(some 5), (.mv (.t 0)), none⟩, ⟨(some 6), (.len 24 (.t 5)), none⟩, ⟨(some 7), (.mv (.c (.int .i64 0))), none⟩])
(.block 0
(.loop
(.seq
(.rg [⟨(some 8), (.bin .lss 3 (.t 7) (.t 6)), none⟩])
(.seq
(.cond (.t 8)
.skip
(.exit 0))
(.seq
(.block 1
(.seq
(.rg [⟨(some 9), (.mv (.t 7)), none⟩, ⟨(some 10), (.iaddr 24 (.t 5) (.t 7)), none⟩, ⟨(some 11), (.load 36 (.t 10)), none⟩, ⟨(some 4), (.alloc 36), none⟩, ⟨(some 3), (.mv (.t 9)), none⟩, ⟨none, (.store 36 (.t 4) (.t 11)), none⟩])
(.seq
(.dr [⟨(some 12), (.load 36 (.t 4)), none⟩, ⟨(some 13), (.call (.c (.fn 46 [] [])) [(.t 12)]), none⟩, ⟨(some 14), (.bin .neq 27 (.t 13) (.c (.int .i64 0))), none⟩, ⟨(some 15), (.mv (.t 14)), none⟩, ⟨(some 16), (.mv (.t 3)), (some (15, false))⟩, ⟨(some 17), (.bin .gtr 3 (.t 16) (.c (.int .i64 0))), (some (15, false))⟩, ⟨(some 18), (.mv (.t 17)), (some (15, false))⟩, ⟨(some 19), (.mv (.t 0)), (some (18, true))⟩, ⟨(some 20), (.mv (.t 3)), (some (18, true))⟩, ⟨(some 21), (.bin .sub 3 (.t 20) (.c (.int .i64 1))), (some (18, true))⟩, ⟨(some 22), (.iaddr 24 (.t 19) (.t 21)), (some (18, true))⟩, ⟨(some 23), (.faddr 36 (.t 22) 0), (some (18, true))⟩, ⟨(some 24), (.load 3 (.t 23)), (some (18, true))⟩, ⟨(some 25), (.faddr 36 (.t 4) 0), (some (18, true))⟩, ⟨(some 26), (.load 3 (.t 25)), (some (18, true))⟩, ⟨(some 27), (.bin .geq 3 (.t 24) (.t 26)), (some (18, true))⟩, ⟨(some 28), (.pick (.t 18) (.t 27) (.c (.bool false))), (some (15, false))⟩, ⟨(some 29), (.pick (.t 15) (.c (.bool true)) (.t 28)), none⟩] [[], [0], [1], [2, 1], [3], [4, 3], [5, 3, 3], [6], [6], [8, 6], [7, 9, 6], [10, 6], [11, 6], [6], [13, 6], [12, 14, 6], [6, 15, 3], [3, 16]])
(.cond (.t 29)
(.seq
(.rg [⟨(some 2), (.mv (.c (.bool false))), none⟩])
.ret)
.skip))))
(.rg [⟨(some 30), (.bin .add 3 (.t 7) (.c (.int .i64 1))), none⟩, ⟨(some 7), (.mv (.t 30)), none⟩])))))))
(.seq
(.rg [⟨(some 2), (.mv (.c (.bool true))), none⟩])
.ret)))
theorem ok34 : FnOk Try.prog 34 c34 31 1 [(.tmp 2)] := .of Try.func34 (by kernel_rfl) (by kernel_rfl) (by kernel_rfl) (by kernel_rfl) (by kernel_rfl) (by decide) (by kernel_rfl)
def c35 : SC :=
(.seq
(.rg [⟨(some 1), (.box 36 (.t 0)), none⟩, ⟨(some 2), (.mv (.c (.int .i64 0))), none⟩, ⟨(some 3), (.mv (.c (.int .i64 0))), none⟩, ⟨(some 4), (.mv (.c .nilsl)), none⟩])
(.seq
(.seq
(.rg [⟨(some 9), (.load 36 (.t 1)), none⟩, ⟨(some 10), (.call (.c (.fn 46 [] [])) [(.t 9)]), none⟩, ⟨(some 11), (.bin .neq 27 (.t 10) (.c (.int .i64 0))), none⟩])
(.cond (.t 11)
(.seq
(.rg [⟨(some 2), (.mv (.c (.int .i64 0))), none⟩, ⟨(some 3), (.mv (.c (.int .i64 0))), none⟩, ⟨(some 4), (.mv (.c .nilsl)), none⟩])
.ret)
.skip))
(.seq
(.rg [⟨(some 13), (.faddr 36 (.t 1) 3), none⟩, ⟨(some 14), (.load 34 (.t 13)), none⟩, ⟨(some 15), (.call (.c (.fn 53 [] [])) [(.t 14)]), none⟩, ⟨(some 12), (.mv (.t 15)), none⟩, ⟨(some 16), (.ext (.t 12) 0), none⟩, ⟨(some 17), (.ext (.t 12) 1), none⟩, ⟨(some 5), (.alloc 75), none⟩, ⟨none, (.store 75 (.t 5) (.t 16)), none⟩, ⟨(some 6), (.mv (.t 17)), none⟩])
(.seq
(.rg [⟨(some 19), (.faddr 36 (.t 1) 4), none⟩, ⟨(some 20), (.load 34 (.t 19)), none⟩, ⟨(some 21), (.call (.c (.fn 53 [] [])) [(.t 20)]), none⟩, ⟨(some 18), (.mv (.t 21)), none⟩, ⟨(some 22), (.ext (.t 18) 0), none⟩, ⟨(some 23), (.ext (.t 18) 1), none⟩, ⟨(some 7), (.alloc 75), none⟩, ⟨none, (.store 75 (.t 7) (.t 22)), none⟩, ⟨(some 8), (.mv (.t 23)), none⟩])
(.seq
(.rg [⟨(some 24), (.faddr 75 (.t 5) 1), none⟩, ⟨(some 25), (.load 2 (.t 24)), none⟩, ⟨(some 3), (.mv (.t 25)), none⟩])
(.seq
(.seq
(.rg [⟨(some 26), (.mv (.t 8)), none⟩])
(.cond (.t 26)
(.rg [⟨(some 27), (.faddr 75 (.t 7) 0), none⟩, ⟨(some 28), (.load 2 (.t 27)), none⟩, ⟨(some 3), (.mv (.t 28)), none⟩])
.skip))
(.seq
(.dr [⟨(some 29), (.faddr 75 (.t 5) 0), none⟩, ⟨(some 30), (.load 2 (.t 29)), none⟩, ⟨(some 31), (.mv (.t 3)), none⟩, ⟨(some 32), (.faddr 75 (.t 5) 2), none⟩, ⟨(some 33), (.load 44 (.t 32)), none⟩, ⟨(some 34), (.faddr 75 (.t 7) 2), none⟩, ⟨(some 35), (.load 44 (.t 34)), none⟩, ⟨(some 36), (.bsl 102 2 [(0, (.t 33)), (1, (.t 35))]), none⟩, ⟨(some 37), (.call (.c (.fn 54 [] [])) [(.t 36)]), none⟩, ⟨(some 2), (.mv (.t 30)), none⟩, ⟨(some 3), (.mv (.t 31)), none⟩, ⟨(some 4), (.mv (.t 37)), none⟩] [[], [0], [], [], [3], [], [5], [4, 6], [7], [1, 8, 0, 1], [2, 9, 0, 1, 2, 9], [8, 10, 0, 1, 2, 3, 4, 5, 6, 7, 8, 9, 10]])
.ret)))))))
theorem ok35 : FnOk Try.prog 35 c35 38 1 [(.tmp 2), (.tmp 3), (.tmp 4)] := .of Try.func35 (by kernel_rfl) (by kernel_rfl) (by kernel_rfl) (by kernel_rfl) (by kernel_rfl) (by decide) (by kernel_rfl)
def c36 : SC :=
(.seq
(.rg [⟨(some 11), (.mv (.t 1)), none⟩, ⟨(some 12), (.mv (.t 2)), none⟩, ⟨(some 13), (.call (.c (.fn 55 [] [])) [(.t 11), (.t 12)]), none⟩, ⟨(some 10), (.mv (.t 13)), none⟩, ⟨(some 14), (.ext (.t 10) 0), none⟩, ⟨(some 15), (.ext (.t 10) 1), none⟩, ⟨(some 6), (.mv (.t 14)), none⟩, ⟨(some 7), (.mv (.t 15)), none⟩])
(.seq
(.rg [⟨(some 17), (.mv (.t 0)), none⟩, ⟨(some 18), (.nilck (.t 17)), none⟩, ⟨(some 19), (.faddr 68 (.t 18) 0), none⟩, ⟨(some 20), (.load 2 (.t 19)), none⟩, ⟨(some 21), (.mv (.t 6)), none⟩, ⟨(some 22), (.call (.c (.fn 56 [] [])) [(.t 20), (.t 21)]), none⟩, ⟨(some 16), (.mv (.t 22)), none⟩, ⟨(some 23), (.ext (.t 16) 0), none⟩, ⟨(some 24), (.ext (.t 16) 1), none⟩, ⟨(some 8), (.mv (.t 23)), none⟩, ⟨(some 9), (.mv (.t 24)), none⟩])
(.rg [⟨(some 25), (.mv (.t 0)), none⟩, ⟨(some 26), (.mv (.t 0)), none⟩, ⟨(some 27), (.mv (.t 8)), none⟩, ⟨(some 28), (.mv (.t 0)), none⟩, ⟨(some 29), (.nilck (.t 28)), none⟩, ⟨(some 30), (.faddr 68 (.t 29) 1), none⟩, ⟨(some 31), (.load 4 (.t 30)), none⟩, ⟨(some 32), (.mv (.t 31)), none⟩, ⟨(some 33), (.mv (.t 7)), (some (32, false))⟩, ⟨(some 34), (.un .not (.t 33)), (some (32, false))⟩, ⟨(some 35), (.pick (.t 32) (.c (.bool true)) (.t 34)), none⟩, ⟨(some 36), (.mv (.t 35)), none⟩, ⟨(some 37), (.mv (.t 9)), (some (36, false))⟩, ⟨(some 38), (.un .not (.t 37)), (some (36, false))⟩, ⟨(some 39), (.pick (.t 36) (.c (.bool true)) (.t 38)), none⟩, ⟨(some 40), (.nilck (.t 25)), none⟩, ⟨(some 41), (.faddr 68 (.t 40) 0), none⟩, ⟨none, (.store 2 (.t 41) (.t 27)), none⟩, ⟨(some 42), (.nilck (.t 26)), none⟩, ⟨(some 43), (.faddr 68 (.t 42) 1), none⟩, ⟨none, (.store 4 (.t 43) (.t 39)), none⟩])))
theorem ok36 : FnOk Try.prog 36 c36 44 3 [] := .of Try.func36 (by kernel_rfl) (by kernel_rfl) (by kernel_rfl) (by kernel_rfl) (by kernel_rfl) (by decide) (by kernel_rfl)
def c37 : SC :=
(.seq
(.rg [⟨(some 4), (.mv (.c (.int .i64 0))), none⟩])
(.seq
(.rg [⟨(some 15), (.mkmap 90), none⟩, ⟨(some 5), (.mv (.t 15)), none⟩])
(.seq
(.seq
(.rg [⟨(some 16), (.mv (.t 0)), none⟩, ⟨(some 17), (.len 24 (.t 16)), none⟩, ⟨(some 18), (.mv (.c (.int .i64 0))), none⟩])
(.block 0
(.loop
(.seq
(.rg [⟨(some 19), (.bin .lss 3 (.t 18) (.t 17)), none⟩])
(.seq
(.cond (.t 19)
.skip
(.exit 0))
(.seq
(.block 1
(.seq
(.rg [⟨(some 20), (.mv (.t 18)), none⟩, ⟨(some 21), (.iaddr 24 (.t 16) (.t 18)), none⟩, ⟨(some 22), (.load 36 (.t 21)), none⟩, ⟨(some 7), (.alloc 36), none⟩, ⟨(some 6), (.mv (.t 20)), none⟩, ⟨none, (.store 36 (.t 7) (.t 22)), none⟩])
(.seq
(.seq
(.rg [⟨(some 23), (.mv (.t 6)), none⟩, ⟨(some 24), (.mv (.t 1)), none⟩, ⟨(some 25), (.bin .eql 3 (.t 23) (.t 24)), none⟩])
(.cond (.t 25)
(.exit 1)
.skip))
(.seq
(.rg [⟨(some 27), (.load 36 (.t 7)), none⟩, ⟨(some 28), (.call (.c (.fn 35 [] [])) [(.t 27)]), none⟩, ⟨(some 26), (.mv (.t 28)), none⟩, ⟨(some 29), (.ext (.t 26) 0), none⟩, ⟨(some 30), (.ext (.t 26) 1), none⟩, ⟨(some 31), (.ext (.t 26) 2), none⟩, ⟨(some 8), (.mv (.t 29)), none⟩, ⟨(some 9), (.mv (.t 30)), none⟩, ⟨(some 10), (.mv (.t 31)), none⟩])
(.seq
(.rg [⟨(some 32), (.mv (.t 10)), none⟩, ⟨(some 33), (.len 44 (.t 32)), none⟩, ⟨(some 34), (.mv (.c (.int .i64 0))), none⟩])
(.block 2
(.loop
(.seq
(.rg [⟨(some 35), (.bin .lss 3 (.t 34) (.t 33)), none⟩])
(.seq
(.cond (.t 35)
.skip
(.exit 2))
(.seq
(.block 3
(.seq
(.rg [⟨(some 36), (.iaddr 44 (.t 32) (.t 34)), none⟩, ⟨(some 37), (.load 73 (.t 36)), none⟩, ⟨(some 12), (.alloc 73), none⟩, ⟨none, (.store 73 (.t 12) (.t 37)), none⟩])
(.seq
(.seq
(.rg [⟨(some 39), (.mv (.t 5)), none⟩, ⟨(some 40), (.faddr 73 (.t 12) 0), none⟩, ⟨(some 41), (.load 3 (.t 40)), none⟩, ⟨(some 42), (.build 92 [(0, (.t 41))]), none⟩, ⟨(some 43), (.lkp 90 (.t 39) (.t 42) true), none⟩, ⟨(some 38), (.mv (.t 43)), none⟩, ⟨(some 44), (.ext (.t 38) 0), none⟩, ⟨(some 45), (.ext (.t 38) 1), none⟩, ⟨(some 13), (.mv (.t 44)), none⟩, ⟨(some 14), (.mv (.t 45)), none⟩])
(.seq
(.rg [⟨(some 46), (.mv (.t 14)), none⟩, ⟨(some 47), (.un .not (.t 46)), none⟩])
(.cond (.t 47)
(.dr [⟨(some 48), (.mv (.t 5)), none⟩, ⟨(some 49), (.faddr 73 (.t 12) 0), none⟩, ⟨(some 50), (.load 3 (.t 49)), none⟩, ⟨(some 51), (.build 92 [(0, (.t 50))]), none⟩, ⟨(some 52), (.mv (.t 0)), none⟩, ⟨(some 53), (.faddr 73 (.t 12) 0), none⟩, ⟨(some 54), (.load 3 (.t 53)), none⟩, ⟨(some 55), (.call (.c (.fn 57 [] [])) [(.t 52), (.t 54)]), none⟩, ⟨none, (.mupd 90 (.t 48) (.t 51) (.t 55)), none⟩] [[], [], [1], [2], [], [], [5], [4, 6], [0, 3, 7, 7, 0, 1, 2, 3, 4, 5, 6, 7]])
.skip)))
(.seq
(.rg [⟨(some 56), (.mv (.t 5)), none⟩, ⟨(some 57), (.faddr 73 (.t 12) 0), none⟩, ⟨(some 58), (.load 3 (.t 57)), none⟩, ⟨(some 59), (.build 92 [(0, (.t 58))]), none⟩, ⟨(some 60), (.lkp 90 (.t 56) (.t 59) false), none⟩, ⟨(some 61), (.mv (.t 1)), none⟩, ⟨(some 62), (.bin .leq 3 (.t 60) (.t 61)), none⟩])
(.cond (.t 62)
(.rg [⟨(some 63), (.mv (.t 4)), none⟩, ⟨(some 64), (.faddr 73 (.t 12) 1), none⟩, ⟨(some 65), (.load 3 (.t 64)), none⟩, ⟨(some 66), (.max (.t 63) (.t 65)), none⟩, ⟨(some 4), (.mv (.t 66)), none⟩])
.skip)))))
(.rg [⟨(some 67), (.bin .add 3 (.t 34) (.c (.int .i64 1))), none⟩, ⟨(some 34), (.mv (.t 67)), none⟩])))))))))))
(.rg [⟨(some 68), (.bin .add 3 (.t 18) (.c (.int .i64 1))), none⟩, ⟨(some 18), (.mv (.t 68)), none⟩])))))))
(.seq
(.rg [⟨(some 69), (.mv (.t 4)), none⟩, ⟨(some 4), (.mv (.t 69)), none⟩])
.ret))))
theorem ok37 : FnOk Try.prog 37 c37 70 2 [(.tmp 4)] := .of Try.func37 (by kernel_rfl) (by kernel_rfl) (by kernel_rfl) (by kernel_rfl) (by kernel_rfl) (by decide) (by kernel_rfl)
def c38 : SC :=
(.seq
(.rg [⟨(some 4), (.mv (.c (.int .i64 0))), none⟩])
(.seq
(.rg [⟨(some 8), (.mv (.t 0)), none⟩, ⟨(some 9), (.mv (.t 1)), none⟩, ⟨(some 10), (.call (.c (.fn 58 [] [])) [(.t 8), (.t 9)]), none⟩, ⟨(some 7), (.mv (.t 10)), none⟩, ⟨(some 11), (.ext (.t 7) 0), none⟩, ⟨(some 12), (.ext (.t 7) 1), none⟩, ⟨(some 5), (.mv (.t 11)), none⟩, ⟨(some 6), (.mv (.t 12)), none⟩])
(.seq
(.rg [⟨(some 13), (.mv (.t 5)), none⟩, ⟨(some 4), (.mv (.t 13)), none⟩])
.ret)))
theorem ok38 : FnOk Try.prog 38 c38 14 2 [(.tmp 4)] := .of Try.func38 (by kernel_rfl) (by kernel_rfl) (by kernel_rfl) (by kernel_rfl) (by kernel_rfl) (by decide) (by kernel_rfl)
def c53 : SC :=
(.seq
(.rg [⟨(some 2), (.alloc 75), none⟩, ⟨(some 3), (.mv (.c (.bool false))), none⟩])
(.seq
(.seq
(.rg [⟨(some 10), (.mv (.t 0)), none⟩, ⟨(some 11), (.call (.c (.fn 63 [] [])) [(.t 10)]), none⟩, ⟨(some 12), (.un .not (.t 11)), none⟩])
(.cond (.t 12)
(.seq
(.rg [⟨(some 13), (.build 75 []), none⟩, ⟨none, (.store 75 (.t 2) (.t 13)), none⟩, ⟨(some 3), (.mv (.c (.bool false))), none⟩])
.ret)
.skip))
(.seq
(.rg [⟨(some 14), (.mv (.t 0)), none⟩, ⟨(some 15), (.call (.c (.fn 70 [] [])) [(.t 14)]), none⟩, ⟨(some 4), (.mv (.t 15)), none⟩, ⟨(some 5), (.mv (.c (.int .i64 0))), none⟩])
(.seq
(.rg [⟨(some 17), (.mv (.t 0)), none⟩, ⟨(some 18), (.call (.c (.fn 71 [] [])) [(.t 17)]), none⟩, ⟨(some 16), (.mv (.t 18)), none⟩, ⟨(some 19), (.ext (.t 16) 0), none⟩, ⟨(some 20), (.ext (.t 16) 1), none⟩, ⟨(some 6), (.mv (.t 19)), none⟩, ⟨(some 7), (.mv (.t 20)), none⟩])
(.seq
(.rg [⟨(some 21), (.mv (.t 4)), none⟩, ⟨(some 22), (.call (.c (.fn 72 [] [])) [(.t 21)]), none⟩, ⟨(some 23), (.faddr 75 (.t 2) 0), none⟩, ⟨none, (.store 2 (.t 23) (.t 22)), none⟩])
(.seq
(.seq
(.rg [⟨(some 24), (.mv (.t 0)), none⟩, ⟨(some 25), (.len 34 (.t 24)), none⟩, ⟨(some 26), (.mv (.c (.int .i64 0))), none⟩])
(.block 0
(.loop
(.seq
(.rg [⟨(some 27), (.bin .lss 3 (.t 26) (.t 25)), none⟩])
(.seq
(.cond (.t 27)
.skip
(.exit 0))
(.seq
(.block 1
(.seq
(.rg [⟨(some 28), (.mv (.t 26)), none⟩, ⟨(some 29), (.iaddr 34 (.t 24) (.t 26)), none⟩, ⟨(some 30), (.load 60 (.t 29)), none⟩, ⟨(some 9), (.alloc 60), none⟩, ⟨(some 8), (.mv (.t 28)), none⟩, ⟨none, (.store 60 (.t 9) (.t 30)), none⟩])
(.seq
(.rg [⟨(some 31), (.faddr 60 (.t 9) 0), none⟩, ⟨(some 32), (.load 3 (.t 31)), none⟩])
(.block 2
(.seq
(.seq
(.rg [⟨(some 34), (.bin .eql 3 (.t 32) (.c (.int .i64 11))), none⟩, ⟨(some 33), (.mv (.t 34)), none⟩])
(.cond (.t 33)
.skip
(.rg [⟨(some 35), (.bin .eql 3 (.t 32) (.c (.int .i64 0))), none⟩, ⟨(some 33), (.mv (.t 35)), none⟩])))
(.cond (.t 33)
(.seq
(.dr [⟨(some 36), (.faddr 75 (.t 2) 1), none⟩, ⟨(some 37), (.load 2 (.t 36)), none⟩, ⟨(some 38), (.mv (.t 4)), none⟩, ⟨(some 39), (.mv (.t 5)), none⟩, ⟨(some 40), (.mv (.t 8)), none⟩, ⟨(some 41), (.bin .add 3 (.t 40) (.c (.int .i64 1))), none⟩, ⟨(some 42), (.slice 26 (.t 38) (some (.t 39)) (some (.t 41)) none), none⟩, ⟨(some 43), (.call (.c (.fn 72 [] [])) [(.t 42)]), none⟩, ⟨(some 44), (.max (.t 37) (.t 43)), none⟩, ⟨(some 45), (.faddr 75 (.t 2) 1), none⟩, ⟨none, (.store 2 (.t 45) (.t 44)), none⟩] [[], [0], [], [], [], [4], [2, 3, 5], [6], [1, 7], [0, 1, 2, 3, 4, 5, 6, 7, 8], [9, 8, 7, 0, 1, 2, 3, 4, 5, 6, 7, 8]])
(.rg [⟨(some 46), (.mv (.t 8)), none⟩, ⟨(some 47), (.bin .add 3 (.t 46) (.c (.int .i64 1))), none⟩, ⟨(some 5), (.mv (.t 47)), none⟩]))
(.seq
(.rg [⟨(some 49), (.bin .eql 3 (.t 32) (.c (.int .i64 9))), none⟩, ⟨(some 48), (.mv (.t 49)), none⟩])
(.cond (.t 48)
(.dr [⟨(some 50), (.faddr 75 (.t 2) 2), none⟩, ⟨(some 51), (.load 44 (.t 50)), none⟩, ⟨(some 52), (.faddr 60 (.t 9) 1), none⟩, ⟨(some 53), (.load 3 (.t 52)), none⟩, ⟨(some 54), (.mv (.t 4)), none⟩, ⟨(some 55), (.mv (.t 8)), none⟩, ⟨(some 56), (.bin .add 3 (.t 55) (.c (.int .i64 1))), none⟩, ⟨(some 57), (.mv (.t 6)), none⟩, ⟨(some 58), (.mv (.t 8)), none⟩, ⟨(some 59), (.iaddr 94 (.t 57) (.t 58)), none⟩, ⟨(some 60), (.load 3 (.t 59)), none⟩, ⟨(some 61), (.bin .add 3 (.t 60) (.c (.int .i64 1))), none⟩, ⟨(some 62), (.slice 26 (.t 54) (some (.t 56)) (some (.t 61)) none), none⟩, ⟨(some 63), (.call (.c (.fn 72 [] [])) [(.t 62)]), none⟩, ⟨(some 64), (.mv (.t 4)), none⟩, ⟨(some 65), (.mv (.t 8)), none⟩, ⟨(some 66), (.iaddr 26 (.t 64) (.t 65)), none⟩, ⟨(some 67), (.load 2 (.t 66)), none⟩, ⟨(some 68), (.bin .quo 2 (.t 63) (.t 67)), none⟩, ⟨(some 69), (.build 73 [(0, (.t 53)), (1, (.t 68))]), none⟩, ⟨(some 70), (.bsl 44 1 [(0, (.t 69))]), none⟩, ⟨(some 71), (.app 44 44 (.t 51) (.t 70)), none⟩, ⟨(some 72), (.faddr 75 (.t 2) 2), none⟩, ⟨none, (.store 44 (.t 72) (.t 71)), none⟩] [[], [0], [], [2], [], [], [5], [], [], [7, 8], [9], [10], [4, 6, 11], [12], [], [], [14, 15], [16], [13, 17], [3, 18], [19], [1, 20, 13], [0, 1, 2, 3, 4, 5, 6, 7, 8, 9, 10, 11, 12, 13, 14, 15, 16, 17, 18, 19, 20, 21], [22, 21, 21, 0, 1, 2, 3, 4, 5, 6, 7, 8, 9, 10, 11, 12, 13, 14, 15, 16, 17, 18, 19, 20, 21]])
.skip))))))))
(.rg [⟨(some 73), (.bin .add 3 (.t 26) (.c (.int .i64 1))), none⟩, ⟨(some 26), (.mv (.t 73)), none⟩])))))))
(.seq
(.rg [⟨(some 74), (.load 75 (.t 2)), none⟩, ⟨none, (.store 75 (.t 2) (.t 74)), none⟩, ⟨(some 3), (.mv (.c (.bool true))), none⟩])
.ret)))))))
theorem ok53 : FnOk Try.prog 53 c53 75 1 [(.cell 2 75), (.tmp 3)] := .of Try.func53 (by kernel_rfl) (by kernel_rfl) (by kernel_rfl) (by kernel_rfl) (by kernel_rfl) (by decide) (by kernel_rfl)
def c70 : SC :=
(.seq
(.rg [⟨(some 2), (.mv (.c .nilsl)), none⟩])
(.seq
(.rg [⟨(some 8), (.mv (.t 0)), none⟩, ⟨(some 9), (.len 34 (.t 8)), none⟩, ⟨(some 10), (.mksl 26 (.t 9) (.t 9)), none⟩, ⟨(some 3), (.mv (.t 10)), none⟩])
(.seq
(.seq
(.rg [⟨(some 11), (.mv (.t 3)), none⟩, ⟨(some 12), (.len 26 (.t 11)), none⟩, ⟨(some 13), (.mv (.c (.int .i64 0))), none⟩])
(.block 0
(.loop
(.seq
(.rg [⟨(some 14), (.bin .lss 3 (.t 13) (.t 12)), none⟩])
(.seq
(.cond (.t 14)
.skip
(.exit 0))
(.seq
(.block 1
(.seq
(.rg [⟨(some 15), (.mv (.t 13)), none⟩, ⟨(some 4), (.mv (.t 15)), none⟩])
(.rg [⟨(some 16), (.mv (.t 3)), none⟩, ⟨(some 17), (.mv (.t 4)), none⟩, ⟨(some 18), (.iaddr 26 (.t 16) (.t 17)), none⟩, ⟨none, (.store 2 (.t 18) (.c (.int .i64 1))), none⟩])))
(.rg [⟨(some 19), (.bin .add 3 (.t 13) (.c (.int .i64 1))), none⟩, ⟨(some 13), (.mv (.t 19)), none⟩])))))))
(.seq
(.seq
(.rg [⟨(some 20), (.mv (.t 0)), none⟩, ⟨(some 21), (.len 34 (.t 20)), none⟩, ⟨(some 22), (.mv (.c (.int .i64 0))), none⟩])
(.block 2
(.loop
(.seq
(.rg [⟨(some 23), (.bin .lss 3 (.t 22) (.t 21)), none⟩])
(.seq
(.cond (.t 23)
.skip
(.exit 2))
(.seq
(.block 3
(.seq
(.rg [⟨(some 24), (.mv (.t 22)), none⟩, ⟨(some 25), (.iaddr 34 (.t 20) (.t 22)), none⟩, ⟨(some 26), (.load 60 (.t 25)), none⟩, ⟨(some 6), (.alloc 60), none⟩, ⟨(some 5), (.mv (.t 24)), none⟩, ⟨none, (.store 60 (.t 6) (.t 26)), none⟩])
(.seq
(.seq
(.rg [⟨(some 27), (.faddr 60 (.t 6) 0), none⟩, ⟨(some 28), (.load 3 (.t 27)), none⟩, ⟨(some 29), (.bin .neq 3 (.t 28) (.c (.int .i64 8))), none⟩])
(.cond (.t 29)
(.exit 3)
.skip))
(.seq
(.rg [⟨(some 30), (.mv (.t 5)), none⟩, ⟨(some 31), (.bin .add 3 (.t 30) (.c (.int .i64 1))), none⟩, ⟨(some 7), (.mv (.t 31)), none⟩])
(.block 4
(.loop
(.seq
(.seq
(.rg [⟨(some 32), (.mv (.t 7)), none⟩, ⟨(some 33), (.mv (.t 5)), none⟩, ⟨(some 34), (.faddr 60 (.t 6) 2), none⟩, ⟨(some 35), (.load 3 (.t 34)), none⟩, ⟨(some 36), (.bin .add 3 (.t 33) (.t 35)), none⟩, ⟨(some 37), (.bin .leq 3 (.t 32) (.t 36)), none⟩])
(.cond (.t 37)
.skip
(.exit 4)))
(.seq
(.block 5
(.dr [⟨(some 41), (.mv (.t 3)), none⟩, ⟨(some 42), (.mv (.t 7)), none⟩, ⟨(some 43), (.mv (.t 3)), none⟩, ⟨(some 44), (.mv (.t 7)), none⟩, ⟨(some 45), (.iaddr 26 (.t 43) (.t 44)), none⟩, ⟨(some 46), (.load 2 (.t 45)), none⟩, ⟨(some 47), (.faddr 60 (.t 6) 3), none⟩, ⟨(some 48), (.load 3 (.t 47)), none⟩, ⟨(some 49), (.call (.c (.fn 55 [] [])) [(.t 46), (.t 48)]), none⟩, ⟨(some 40), (.mv (.t 49)), none⟩, ⟨(some 50), (.ext (.t 40) 0), none⟩, ⟨(some 51), (.ext (.t 40) 1), none⟩, ⟨(some 52), (.iaddr 26 (.t 41) (.t 42)), none⟩, ⟨none, (.store 2 (.t 52) (.t 50)), none⟩] [[], [], [], [], [2, 3], [4], [], [6], [5, 7], [8], [9], [9], [0, 1, 0, 1, 2, 3, 4, 5, 6, 7, 8, 9, 10], [12, 10, 8, 0, 1, 2, 3, 4, 5, 6, 7, 8, 9, 10]]))
(.rg [⟨(some 38), (.mv (.t 7)), none⟩, ⟨(some 39), (.bin .add 3 (.t 38) (.c (.int .i64 1))), none⟩, ⟨(some 7), (.mv (.t 39)), none⟩])))))))))
(.rg [⟨(some 53), (.bin .add 3 (.t 22) (.c (.int .i64 1))), none⟩, ⟨(some 22), (.mv (.t 53)), none⟩])))))))
(.seq
(.rg [⟨(some 54), (.mv (.t 3)), none⟩, ⟨(some 2), (.mv (.t 54)), none⟩])
.ret)))))
theorem ok70 : FnOk Try.prog 70 c70 55 1 [(.tmp 2)] := .of Try.func70 (by kernel_rfl) (by kernel_rfl) (by kernel_rfl) (by kernel_rfl) (by kernel_rfl) (by decide) (by kernel_rfl)
def c71 : SC :=
(.seq
(.rg [⟨(some 1), (.box 34 (.t 0)), none⟩, ⟨(some 2), (.mv (.c .nilsl)), none⟩, ⟨(some 3), (.mv (.c (.bool false))), none⟩])
(.seq
(.dr [⟨(some 13), (.load 34 (.t 1)), none⟩, ⟨(some 14), (.len 34 (.t 13)), none⟩, ⟨(some 15), (.mksl 94 (.t 14) (.t 14)), none⟩, ⟨(some 16), (.bsl 94 0 []), none⟩, ⟨(some 17), (.mkmap 124), none⟩, ⟨(some 18), (.load 34 (.t 1)), none⟩, ⟨(some 19), (.call (.c (.fn 91 [] [])) [(.t 18)]), none⟩, ⟨(some 4), (.mv (.t 15)), none⟩, ⟨(some 5), (.mv (.t 16)), none⟩, ⟨(some 6), (.mv (.t 17)), none⟩, ⟨(some 7), (.mv (.t 19)), none⟩] [[], [0], [1, 1], [], [], [], [5], [2, 6, 0, 1, 2], [3, 7, 0, 1, 2, 3, 7], [4, 8, 0, 1, 2, 3, 4, 7, 8], [6, 9, 0, 1, 2, 3, 4, 5, 6, 7, 8, 9]])
(.seq
(.seq
(.rg [⟨(some 20), (.mv (.t 7)), none⟩, ⟨(some 21), (.len 119 (.t 20)), none⟩, ⟨(some 22), (.mv (.c (.int .i64 0))), none⟩])
(.block 0
(.loop
(.seq
(.rg [⟨(some 23), (.bin .lss 3 (.t 22) (.t 21)), none⟩])
(.seq
(.cond (.t 23)
.skip
(.exit 0))
(.seq
(.block 1
(.seq
(.rg [⟨(some 24), (.mv (.t 22)), none⟩, ⟨(some 25), (.iaddr 119 (.t 20) (.t 22)), none⟩, ⟨(some 26), (.load 122 (.t 25)), none⟩, ⟨(some 8), (.alloc 3), none⟩, ⟨(some 9), (.alloc 122), none⟩, ⟨none, (.store 3 (.t 8) (.t 24)), none⟩, ⟨none, (.store 122 (.t 9) (.t 26)), none⟩])
(.seq
(.seq
(.rg [⟨(some 28), (.mv (.t 6)), none⟩, ⟨(some 29), (.load 122 (.t 9)), none⟩, ⟨(some 30), (.lkp 124 (.t 28) (.t 29) true), none⟩, ⟨(some 27), (.mv (.t 30)), none⟩, ⟨(some 31), (.ext (.t 27) 0), none⟩, ⟨(some 32), (.ext (.t 27) 1), none⟩, ⟨(some 10), (.mv (.t 31)), none⟩, ⟨(some 11), (.mv (.t 32)), none⟩])
(.seq
(.rg [⟨(some 33), (.mv (.t 11)), none⟩, ⟨(some 34), (.un .not (.t 33)), none⟩])
(.cond (.t 34)
(.rg [⟨(some 35), (.mv (.t 6)), none⟩, ⟨(some 36), (.load 122 (.t 9)), none⟩, ⟨(some 37), (.load 3 (.t 8)), none⟩, ⟨none, (.mupd 124 (.t 35) (.t 36) (.t 37)), none⟩])
.skip)))
(.seq
(.rg [⟨(some 38), (.load 34 (.t 1)), none⟩, ⟨(some 39), (.load 3 (.t 8)), none⟩, ⟨(some 40), (.iaddr 34 (.t 38) (.t 39)), none⟩, ⟨(some 41), (.faddr 60 (.t 40) 0), none⟩, ⟨(some 42), (.load 3 (.t 41)), none⟩])
(.block 2
(.seq
(.rg [⟨(some 44), (.bin .eql 3 (.t 42) (.c (.int .i64 9))), none⟩, ⟨(some 43), (.mv (.t 44)), none⟩])
(.cond (.t 43)
(.seq
(.seq
(.rg [⟨(some 45), (.mv (.t 5)), none⟩, ⟨(some 46), (.len 94 (.t 45)), none⟩, ⟨(some 47), (.bin .geq 3 (.t 46) (.c (.int .i64 2))), none⟩, ⟨(some 48), (.mv (.t 47)), none⟩, ⟨(some 49), (.mv (.t 5)), (some (48, false))⟩, ⟨(some 50), (.mkfn 96 [] [(.t 1), (.t 8)]), (some (48, false))⟩, ⟨(some 51), (.call (.c (.fn 92 [] [])) [(.t 49), (.t 50)]), (some (48, false))⟩, ⟨(some 52), (.pick (.t 48) (.c (.bool true)) (.t 51)), none⟩])
(.cond (.t 52)
(.seq
(.rg [⟨(some 2), (.mv (.c .nilsl)), none⟩, ⟨(some 3), (.mv (.c (.bool false))), none⟩])
.ret)
.skip))
(.rg [⟨(some 53), (.mv (.t 5)), none⟩, ⟨(some 54), (.load 3 (.t 8)), none⟩, ⟨(some 55), (.bsl 94 1 [(0, (.t 54))]), none⟩, ⟨(some 56), (.app 94 94 (.t 53) (.t 55)), none⟩, ⟨(some 5), (.mv (.t 56)), none⟩]))
(.seq
(.rg [⟨(some 58), (.bin .eql 3 (.t 42) (.c (.int .i64 10))), none⟩, ⟨(some 57), (.mv (.t 58)), none⟩])
(.cond (.t 57)
(.seq
(.rg [⟨(some 59), (.mv (.t 5)), none⟩, ⟨(some 60), (.len 94 (.t 59)), none⟩, ⟨(some 61), (.bin .sub 3 (.t 60) (.c (.int .i64 1))), none⟩, ⟨(some 12), (.mv (.t 61)), none⟩])
(.seq
(.seq
(.dr [⟨(some 62), (.mv (.t 12)), none⟩, ⟨(some 63), (.bin .lss 3 (.t 62) (.c (.int .i64 0))), none⟩, ⟨(some 64), (.mv (.t 63)), none⟩, ⟨(some 65), (.load 34 (.t 1)), (some (64, false))⟩, ⟨(some 66), (.mv (.t 5)), (some (64, false))⟩, ⟨(some 67), (.mv (.t 12)), (some (64, false))⟩, ⟨(some 68), (.iaddr 94 (.t 66) (.t 67)), (some (64, false))⟩, ⟨(some 69), (.load 3 (.t 68)), (some (64, false))⟩, ⟨(some 70), (.iaddr 34 (.t 65) (.t 69)), (some (64, false))⟩, ⟨(some 71), (.faddr 60 (.t 70) 1), (some (64, false))⟩, ⟨(some 72), (.load 3 (.t 71)), (some (64, false))⟩, ⟨(some 73), (.load 34 (.t 1)), (some (64, false))⟩, ⟨(some 74), (.load 3 (.t 8)), (some (64, false))⟩, ⟨(some 75), (.iaddr 34 (.t 73) (.t 74)), (some (64, false))⟩, ⟨(some 76), (.faddr 60 (.t 75) 1), (some (64, false))⟩, ⟨(some 77), (.load 3 (.t 76)), (some (64, false))⟩, ⟨(some 78), (.bin .neq 3 (.t 72) (.t 77)), (some (64, false))⟩, ⟨(some 79), (.pick (.t 64) (.c (.bool true)) (.t 78)), none⟩, ⟨(some 80), (.mv (.t 79)), none⟩, ⟨(some 81), (.mv (.t 6)), (some (80, false))⟩, ⟨(some 82), (.mv (.t 7)), (some (80, false))⟩, ⟨(some 83), (.mv (.t 5)), (some (80, false))⟩, ⟨(some 84), (.mv (.t 12)), (some (80, false))⟩, ⟨(some 85), (.iaddr 94 (.t 83) (.t 84)), (some (80, false))⟩, ⟨(some 86), (.load 3 (.t 85)), (some (80, false))⟩, ⟨(some 87), (.iaddr 119 (.t 82) (.t 86)), (some (80, false))⟩, ⟨(some 88), (.load 122 (.t 87)), (some (80, false))⟩, ⟨(some 89), (.lkp 124 (.t 81) (.t 88) false), (some (80, false))⟩, ⟨(some 90), (.mv (.t 6)), (some (80, false))⟩, ⟨(some 91), (.load 122 (.t 9)), (some (80, false))⟩, ⟨(some 92), (.lkp 124 (.t 90) (.t 91) false), (some (80, false))⟩, ⟨(some 93), (.bin .neq 3 (.t 89) (.t 92)), (some (80, false))⟩, ⟨(some 94), (.pick (.t 80) (.c (.bool true)) (.t 93)), none⟩] [[], [0], [1], [2], [2], [2], [4, 5, 2], [6, 2], [3, 7, 2], [8, 2], [9, 2], [2], [2], [11, 12, 2], [13, 2], [14, 2], [10, 15, 2], [2, 16], [17, 2], [18], [18], [18], [18], [21, 22, 18], [23, 18], [20, 24, 18], [25, 18], [19, 26, 18], [18], [18], [28, 29, 18], [27, 30, 18], [18, 31]])
(.cond (.t 94)
(.seq
(.rg [⟨(some 2), (.mv (.c .nilsl)), none⟩, ⟨(some 3), (.mv (.c (.bool false))), none⟩])
.ret)
.skip))
(.seq
(.dr [⟨(some 95), (.mv (.t 4)), none⟩, ⟨(some 96), (.mv (.t 5)), none⟩, ⟨(some 97), (.mv (.t 12)), none⟩, ⟨(some 98), (.iaddr 94 (.t 96) (.t 97)), none⟩, ⟨(some 99), (.load 3 (.t 98)), none⟩, ⟨(some 100), (.load 3 (.t 8)), none⟩, ⟨(some 101), (.iaddr 94 (.t 95) (.t 99)), none⟩, ⟨none, (.store 3 (.t 101) (.t 100)), none⟩] [[], [], [], [1, 2], [3], [], [0, 4, 0, 1, 2, 3, 4, 5], [6, 5, 0, 1, 2, 3, 4, 5]])
(.rg [⟨(some 102), (.mv (.t 5)), none⟩, ⟨(some 103), (.mv (.t 12)), none⟩, ⟨(some 104), (.slice 94 (.t 102) none (some (.t 103)) none), none⟩, ⟨(some 5), (.mv (.t 104)), none⟩]))))
.skip)))))))))
(.rg [⟨(some 105), (.bin .add 3 (.t 22) (.c (.int .i64 1))), none⟩, ⟨(some 22), (.mv (.t 105)), none⟩])))))))
(.seq
(.seq
(.rg [⟨(some 106), (.mv (.t 5)), none⟩, ⟨(some 107), (.len 94 (.t 106)), none⟩, ⟨(some 108), (.bin .gtr 3 (.t 107) (.c (.int .i64 0))), none⟩])
(.cond (.t 108)
(.seq
(.rg [⟨(some 2), (.mv (.c .nilsl)), none⟩, ⟨(some 3), (.mv (.c (.bool false))), none⟩])
.ret)
.skip))
(.seq
(.rg [⟨(some 109), (.mv (.t 4)), none⟩, ⟨(some 2), (.mv (.t 109)), none⟩, ⟨(some 3), (.mv (.c (.bool true))), none⟩])
.ret)))))
theorem ok71 : FnOk Try.prog 71 c71 110 1 [(.tmp 2), (.tmp 3)] := .of Try.func71 (by kernel_rfl) (by kernel_rfl) (by kernel_rfl) (by kernel_rfl) (by kernel_rfl) (by decide) (by kernel_rfl)
def c72 : SC :=
(.seq
(.rg [⟨(some 2), (.mv (.c (.int .i64 0))), none⟩])
(.seq
(.seq
(.rg [⟨(some 5), (.mv (.t 0)), none⟩, ⟨(some 6), (.len 26 (.t 5)), none⟩, ⟨(some 7), (.mv (.c (.int .i64 0))), none⟩])
(.block 0
(.loop
(.seq
(.rg [⟨(some 8), (.bin .lss 3 (.t 7) (.t 6)), none⟩])
(.seq
(.cond (.t 8)
.skip
(.exit 0))
(.seq
(.block 1
(.seq
(.rg [⟨(some 9), (.iaddr 26 (.t 5) (.t 7)), none⟩, ⟨(some 10), (.load 2 (.t 9)), none⟩, ⟨(some 4), (.mv (.t 10)), none⟩])
(.rg [⟨(some 12), (.mv (.t 2)), none⟩, ⟨(some 13), (.mv (.t 4)), none⟩, ⟨(some 14), (.call (.c (.fn 56 [] [])) [(.t 12), (.t 13)]), none⟩, ⟨(some 11), (.mv (.t 14)), none⟩, ⟨(some 15), (.ext (.t 11) 0), none⟩, ⟨(some 16), (.ext (.t 11) 1), none⟩, ⟨(some 2), (.mv (.t 15)), none⟩])))
(.rg [⟨(some 17), (.bin .add 3 (.t 7) (.c (.int .i64 1))), none⟩, ⟨(some 7), (.mv (.t 17)), none⟩])))))))
(.seq
(.rg [⟨(some 18), (.mv (.t 2)), none⟩, ⟨(some 2), (.mv (.t 18)), none⟩])
.ret)))
theorem ok72 : FnOk Try.prog 72 c72 19 1 [(.tmp 2)] := .of Try.func72 (by kernel_rfl) (by kernel_rfl) (by kernel_rfl) (by kernel_rfl) (by kernel_rfl) (by decide) (by kernel_rfl)
def c15 : SC :=
(.seq
(.rg [⟨(some 6), (.mv (.c (.int .i64 0))), none⟩, ⟨(some 7), (.mv (.c (.int .i64 0))), none⟩, ⟨(some 8), (.mv (.c (.int .i64 0))), none⟩])
(.seq
(.seq
(.rg [⟨(some 25), (.mv (.t 0)), none⟩, ⟨(some 26), (.call (.c (.fn 34 [] [])) [(.t 25)]), none⟩, ⟨(some 27), (.un .not (.t 26)), none⟩, ⟨(some 28), (.mv (.t 27)), none⟩, ⟨(some 29), (.mv (.t 1)), (some (28, false))⟩, ⟨(some 30), (.bin .lss 3 (.t 29) (.c (.int .i64 0))), (some (28, false))⟩, ⟨(some 31), (.pick (.t 28) (.c (.bool true)) (.t 30)), none⟩, ⟨(some 32), (.mv (.t 31)), none⟩, ⟨(some 33), (.mv (.t 1)), (some (32, false))⟩, ⟨(some 34), (.mv (.t 0)), (some (32, false))⟩, ⟨(some 35), (.len 24 (.t 34)), (some (32, false))⟩, ⟨(some 36), (.bin .geq 3 (.t 33) (.t 35)), (some (32, false))⟩, ⟨(some 37), (.pick (.t 32) (.c (.bool true)) (.t 36)), none⟩, ⟨(some 38), (.mv (.t 37)), none⟩, ⟨(some 39), (.mv (.t 2)), (some (38, false))⟩, ⟨(some 40), (.bin .lss 2 (.t 39) (.c (.int .i64 1))), (some (38, false))⟩, ⟨(some 41), (.pick (.t 38) (.c (.bool true)) (.t 40)), none⟩])
(.cond (.t 41)
(.seq
(.rg [⟨(some 6), (.mv (.c (.int .i64 0))), none⟩, ⟨(some 7), (.mv (.c (.int .i64 0))), none⟩, ⟨(some 8), (.mv (.c (.int .i64 1))), none⟩])
.ret)
.skip))
(.seq
(.rg [⟨(some 43), (.mv (.t 0)), none⟩, ⟨(some 44), (.mv (.t 1)), none⟩, ⟨(some 45), (.iaddr 24 (.t 43) (.t 44)), none⟩, ⟨(some 46), (.load 36 (.t 45)), none⟩, ⟨(some 47), (.call (.c (.fn 35 [] [])) [(.t 46)]), none⟩, ⟨(some 42), (.mv (.t 47)), none⟩, ⟨(some 48), (.ext (.t 42) 0), none⟩, ⟨(some 49), (.ext (.t 42) 1), none⟩, ⟨(some 50), (.ext (.t 42) 2), none⟩, ⟨(some 9), (.mv (.t 48)), none⟩, ⟨(some 10), (.mv (.t 49)), none⟩, ⟨(some 11), (.mv (.t 50)), none⟩])
(.seq
(.rg [⟨(some 12), (.mv (.c (.int .i64 0))), none⟩])
(.seq
(.seq
(.rg [⟨(some 51), (.mv (.t 0)), none⟩, ⟨(some 52), (.mv (.t 1)), none⟩, ⟨(some 53), (.bin .add 3 (.t 52) (.c (.int .i64 1))), none⟩, ⟨(some 54), (.slice 24 (.t 51) none (some (.t 53)) none), none⟩, ⟨(some 55), (.len 24 (.t 54)), none⟩, ⟨(some 56), (.mv (.c (.int .i64 0))), none⟩])
(.block 0
(.loop
(.seq
(.rg [⟨(some 57), (.bin .lss 3 (.t 56) (.t 55)), none⟩])
(.seq
(.cond (.t 57)
.skip
(.exit 0))
(.seq
(.block 1
(.seq
(.rg [⟨(some 58), (.iaddr 24 (.t 54) (.t 56)), none⟩, ⟨(some 59), (.load 36 (.t 58)), none⟩, ⟨(some 14), (.alloc 36), none⟩, ⟨none, (.store 36 (.t 14) (.t 59)), none⟩])
(.seq
(.rg [⟨(some 61), (.load 36 (.t 14)), none⟩, ⟨(some 62), (.call (.c (.fn 35 [] [])) [(.t 61)]), none⟩, ⟨(some 60), (.mv (.t 62)), none⟩, ⟨(some 63), (.ext (.t 60) 0), none⟩, ⟨(some 64), (.ext (.t 60) 1), none⟩, ⟨(some 65), (.ext (.t 60) 2), none⟩, ⟨(some 15), (.mv (.t 63)), none⟩, ⟨(some 16), (.mv (.t 64)), none⟩, ⟨(some 17), (.mv (.t 65)), none⟩])
(.rg [⟨(some 66), (.mv (.t 12)), none⟩, ⟨(some 67), (.mv (.t 16)), none⟩, ⟨(some 68), (.max (.t 66) (.t 67)), none⟩, ⟨(some 12), (.mv (.t 68)), none⟩]))))
(.rg [⟨(some 69), (.bin .add 3 (.t 56) (.c (.int .i64 1))), none⟩, ⟨(some 56), (.mv (.t 69)), none⟩])))))))
(.seq
(.rg [⟨(some 70), (.mv (.t 9)), none⟩, ⟨(some 71), (.build 68 [(0, (.t 70))]), none⟩, ⟨(some 18), (.alloc 68), none⟩, ⟨none, (.store 68 (.t 18) (.t 71)), none⟩])
(.seq
(.rg [⟨(some 72), (.mv (.t 0)), none⟩, ⟨(some 73), (.mv (.t 1)), none⟩, ⟨(some 74), (.call (.c (.fn 37 [] [])) [(.t 72), (.t 73)]), none⟩, ⟨(some 75), (.call (.c (.fn 36 [] [])) [(.t 18), (.c (.int .i64 1)), (.t 74)]), none⟩])
(.seq
(.rg [⟨(some 76), (.faddr 68 (.t 18) 0), none⟩, ⟨(some 77), (.load 2 (.t 76)), none⟩, ⟨(some 6), (.mv (.t 77)), none⟩])
(.block 2
(.loop
(.block 3
(.seq
(.rg [⟨(some 78), (.mv (.t 7)), none⟩, ⟨(some 79), (.bin .add 3 (.t 78) (.c (.int .i64 1))), none⟩, ⟨(some 7), (.mv (.t 79)), none⟩])
(.seq
(.rg [⟨(some 80), (.load 68 (.t 18)), none⟩, ⟨(some 19), (.alloc 68), none⟩, ⟨none, (.store 68 (.t 19) (.t 80)), none⟩])
(.seq
(.rg [⟨(some 81), (.mv (.t 6)), none⟩, ⟨(some 82), (.mv (.t 2)), none⟩, ⟨(some 83), (.call (.c (.fn 38 [] [])) [(.t 81), (.t 82)]), none⟩, ⟨(some 84), (.mv (.t 12)), none⟩, ⟨(some 85), (.call (.c (.fn 36 [] [])) [(.t 19), (.t 83), (.t 84)]), none⟩])
(.seq
(.seq
(.rg [⟨(some 86), (.mv (.t 0)), none⟩, ⟨(some 87), (.mv (.t 1)), none⟩, ⟨(some 88), (.slice 24 (.t 86) none (some (.t 87)) none), none⟩, ⟨(some 89), (.len 24 (.t 88)), none⟩, ⟨(some 90), (.mv (.c (.int .i64 0))), none⟩])
(.block 4
(.loop
(.seq
(.rg [⟨(some 91), (.bin .lss 3 (.t 90) (.t 89)), none⟩])
(.seq
(.cond (.t 91)
.skip
(.exit 4))
(.seq
(.block 5
(.seq
(.rg [⟨(some 92), (.iaddr 24 (.t 88) (.t 90)), none⟩, ⟨(some 93), (.load 36 (.t 92)), none⟩, ⟨(some 21), (.alloc 36), none⟩, ⟨none, (.store 36 (.t 21) (.t 93)), none⟩])
(.seq
(.rg [⟨(some 95), (.load 36 (.t 21)), none⟩, ⟨(some 96), (.call (.c (.fn 35 [] [])) [(.t 95)]), none⟩, ⟨(some 94), (.mv (.t 96)), none⟩, ⟨(some 97), (.ext (.t 94) 0), none⟩, ⟨(some 98), (.ext (.t 94) 1), none⟩, ⟨(some 99), (.ext (.t 94) 2), none⟩, ⟨(some 22), (.mv (.t 97)), none⟩, ⟨(some 23), (.mv (.t 98)), none⟩, ⟨(some 24), (.mv (.t 99)), none⟩])
(.rg [⟨(some 100), (.mv (.t 6)), none⟩, ⟨(some 101), (.faddr 36 (.t 21) 1), none⟩, ⟨(some 102), (.load 2 (.t 101)), none⟩, ⟨(some 103), (.call (.c (.fn 38 [] [])) [(.t 100), (.t 102)]), none⟩, ⟨(some 104), (.mv (.t 22)), none⟩, ⟨(some 105), (.call (.c (.fn 36 [] [])) [(.t 19), (.t 103), (.t 104)]), none⟩]))))
(.rg [⟨(some 106), (.bin .add 3 (.t 90) (.c (.int .i64 1))), none⟩, ⟨(some 90), (.mv (.t 106)), none⟩])))))))
(.seq
(.block 6
(.seq
(.rg [⟨(some 108), (.faddr 68 (.t 19) 1), none⟩, ⟨(some 109), (.load 4 (.t 108)), none⟩, ⟨(some 107), (.mv (.t 109)), none⟩])
(.cond (.t 107)
(.seq
(.rg [⟨(some 6), (.mv (.c (.int .i64 0))), none⟩, ⟨(some 7), (.mv (.c (.int .i64 0))), none⟩, ⟨(some 8), (.mv (.c (.int .i64 13))), none⟩])
.ret)
(.seq
(.dr [⟨(some 111), (.faddr 68 (.t 19) 0), none⟩, ⟨(some 112), (.load 2 (.t 111)), none⟩, ⟨(some 113), (.mv (.t 0)), none⟩, ⟨(some 114), (.mv (.t 1)), none⟩, ⟨(some 115), (.iaddr 24 (.t 113) (.t 114)), none⟩, ⟨(some 116), (.faddr 36 (.t 115) 2), none⟩, ⟨(some 117), (.load 2 (.t 116)), none⟩, ⟨(some 118), (.bin .gtr 2 (.t 112) (.t 117)), none⟩, ⟨(some 110), (.mv (.t 118)), none⟩] [[], [0], [], [], [2, 3], [4], [5], [1, 6], [7]])
(.cond (.t 110)
(.seq
(.rg [⟨(some 6), (.mv (.c (.int .i64 0))), none⟩, ⟨(some 7), (.mv (.c (.int .i64 0))), none⟩, ⟨(some 8), (.mv (.c (.int .i64 14))), none⟩])
.ret)
(.seq
(.rg [⟨(some 120), (.faddr 68 (.t 19) 0), none⟩, ⟨(some 121), (.load 2 (.t 120)), none⟩, ⟨(some 122), (.mv (.t 6)), none⟩, ⟨(some 123), (.bin .eql 2 (.t 121) (.t 122)), none⟩, ⟨(some 119), (.mv (.t 123)), none⟩])
(.cond (.t 119)
(.seq
(.rg [⟨(some 124), (.mv (.t 6)), none⟩, ⟨(some 125), (.mv (.t 7)), none⟩, ⟨(some 6), (.mv (.t 124)), none⟩, ⟨(some 7), (.mv (.t 125)), none⟩, ⟨(some 8), (.mv (.c (.int .i64 0))), none⟩])
.ret)
.skip)))))))
(.rg [⟨(some 126), (.faddr 68 (.t 19) 0), none⟩, ⟨(some 127), (.load 2 (.t 126)), none⟩, ⟨(some 6), (.mv (.t 127)), none⟩])))))))))))))))))
theorem ok15 : FnOk Try.prog 15 c15 128 3 [(.tmp 6), (.tmp 7), (.tmp 8)] := .of Try.func15 (by kernel_rfl) (by kernel_rfl) (by kernel_rfl) (by kernel_rfl) (by kernel_rfl) (by decide) (by kernel_rfl)
end Go.Fv
/- CONTRACTS: cost.sum. -/
namespace Go.Fv
open Go.Proofs

def satSum (ns : List Int) : Int := ns.foldl (fun s n => (satAdd s n).1) 0

theorem satAdd_i64 {a b : Int} : i64r (satAdd a b).1 := by
  unfold satAdd i64r
  split
  · exact ⟨by decide, by decide⟩
  · split
    · exact ⟨by decide, by decide⟩
    · constructor <;> simp only <;> omega

theorem satSum_take {ns : List Int} {i : Nat} (h : i < ns.length) : satSum (ns.take (i + 1)) = (satAdd (satSum (ns.take i)) ns[i]).1 := by
  unfold satSum
  rw [List.take_succ_eq_append_getElem h, List.foldl_append]; rfl

theorem satSum_i64 (ns : List Int) : i64r (satSum ns) := by
  rcases List.eq_nil_or_concat ns with rfl | ⟨l, a, rfl⟩
  · exact ⟨by decide, by decide⟩
  · unfold satSum; rw [List.concat_eq_append, List.foldl_append]; exact satAdd_i64

theorem s_sum (ns : List Int) (hn : ∀ n ∈ ns, i64r n) (hl : ns.length ≤ maxL) : Pure Try.prog 72 [.fz 1 (intRows ns)] (.int .i64 (satSum ns)) := by
  have hl2 : ns.length ≤ 281474976710656 := hl
  refine Spec.walk ok72 fun C Q hP hN hQ => ?_
  unfold c72
  simp only [EV, EX, hP, reduceIte, Nat.reduceEqDiff, Nat.reduceAdd, Nat.reduceSub, binA, IN, len_fz ty26, intRows_length]
  refine LoopW.by (fun i => ⟨[(7, some (.int .i64 (i : Nat))), (2, some (.int .i64 (satSum (ns.take i)))), (6, some (.int .i64 ns.length)), (5, some (.fz 1 (intRows ns)))], [], 0⟩) (fun i => i ≤ ns.length) (fun i => ns.length - i) 0 (Nat.zero_le _) ?_ ?_
  · refine Sub.pl 0 hN (Nat.zero_le _) (Nat.zero_le _) ?_
    simp only [plT, EV, EX, hP, reduceIte, Nat.reduceEqDiff, Nat.reduceAdd, Nat.reduceSub, plain, intRows_plain, and_true, List.take_zero]
    exact ⟨rfl, rfl⟩
  · intro i hi N hN'
    simp only [EV, EX, hP, reduceIte, Nat.reduceEqDiff, Nat.reduceAdd, Nat.reduceSub, binA, IN]
    refine condS_d (fun h => ?_) (fun h => ?_)
    · have hi2 : i < ns.length := by omega
      have hb : (0 : Int) ≤ i ∧ (i : Int) < ns.length := by omega
      simp only [EV, EX, hP, reduceIte, Nat.reduceEqDiff, Nat.reduceAdd, Nat.reduceSub, binA, IN, iaddr_fz, elSize_eq ty26 ty2, intRows_length, hb, and_self, Int.toNat_natCast, intRows_getD hi2, load_fp, ty2, packA, TK.isAgg, List.getElem?_cons_zero]
      refine callW_pure hP (s_Add _ _ (satSum_i64 _) (hn _ (List.getElem_mem hi2))) rfl rfl ?_
      simp only [EV, EX, hP, reduceIte, Nat.reduceEqDiff, Nat.reduceAdd, Nat.reduceSub, binA, IN, extA, List.getElem?_cons_zero, List.getElem?_cons_succ, ← satSum_take hi2]
      refine hN' _ (i + 1) hi2 (by omega) (Sub.pl 0 hN (Nat.zero_le _) (Nat.zero_le _) ?_)
      simp only [plT, EV, EX, hP, reduceIte, Nat.reduceEqDiff, Nat.reduceAdd, Nat.reduceSub, plain, intRows_plain, and_true, true_and]
      rw [wrap_i64 (by omega) (by omega)]; rfl
    · have hi2 : i = ns.length := by omega
      subst hi2
      simp only [EV, EX, hP, reduceIte, Nat.reduceEqDiff, Nat.reduceAdd, Nat.reduceSub, binA, IN, List.take_length]
      exact hQ _ <| retQ_pure _ rfl rfl ⟨rfl, rfl⟩
end Go.Fv
