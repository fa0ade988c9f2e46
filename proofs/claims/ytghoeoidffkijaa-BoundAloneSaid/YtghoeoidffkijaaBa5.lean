/- Part 5 of the proof: RowBoundAlone. -/
import Derived.Test.YtghoeoidffkijaaBa4
set_option linter.unusedSimpArgs false
set_option linter.unusedVariables false
/- CONTRACTS: the laws of bound: begun, program, BoundAlone. -/
namespace Go.Fv
open Go.Proofs

/-- Own rows told as frozen ones, row by row. -/
theorem Tl.rowsOf {M : Nm} {h : Nat → Option Blk} {k b n : Nat} {rs rows : List (List DV)} (hZ : b ∈ M.Z) (hb : h b = some (.rows k rs)) (hn : n = rs.length) (hl : rs.length = rows.length) (hk : ∀ r ∈ rows, r.length = k)
    (hh : ∀ (i : Nat) (r r' : List DV), rs[i]? = some r → rows[i]? = some r' → TlL M h r r') : Tl M h (.sl k b 0 n) (.fz k rows) := by
  subst hn
  refine .frz k b 0 _ rs rows hZ hb (by omega) (by omega) (fun i j r r' x y h1 h2 h3 h4 => ?_) hk
  rw [List.drop_zero, List.take_length] at h1
  exact (hh i r r' h1 h2).at.2 j x y h3 h4

def insI (n : Nat) : Inst := ⟨n, 0, 0, 0⟩
def begunTk : Tk := ⟨1, 50, 50, [⟨1, 0, 0, 0⟩, ⟨1, 0, 0, 0⟩, ⟨0, 0, 0, 0⟩], [], []⟩
set_option maxRecDepth 100000 in
theorem s_begun17 : Pure Try.prog 13 [] (.bool true) := by
  refine Spec.walk ok13 fun C Q hP hN hQ => ?_
  unfold c13
  have hf : ∀ t ∈ [begunTk], t.fit := by
    intro t ht
    simp only [List.mem_singleton] at ht
    subst ht
    unfold Tk.fit begunTk; simp
  have r0 := s_resp [begunTk] (by simp) hf 0 100 (by unfold i64r; omega) (by unfold i64r; omega)
  have r1 := s_resp [begunTk] (by simp) hf 1 100 (by unfold i64r; omega) (by unfold i64r; omega)
  have e0 : respP [begunTk] 0 100 = (6, 2, 0) := begun17.1
  have e1 : respP [begunTk] 1 100 = (0, 0, 1) := begun17.2
  rw [e0] at r0
  rw [e1] at r1
  simp only [EV, lkO_cons, hP, List.map_cons, List.map_nil, Option.map_some, Option.map_none, reduceIte, Nat.reduceEqDiff, Nat.reduceAdd, Nat.reduceSub, List.cons_append, List.nil_append, binA, IN, buildA, fillA, faddrA, load_ptr, load_fp, rowOf_eq, blk_mk, packA, TK.isAgg, cellsOf, cellD, boxA, allocA, storeA, putCells, List.set_cons_zero, List.set_cons_succ, List.all_cons, List.all_nil, Bool.and_self, and_self, List.length_cons, List.length_nil, List.getElem?_cons_zero, List.getElem?_cons_succ, List.drop_zero, List.drop_succ_cons, List.take_succ_cons, List.take_zero, Nat.zero_add, Nat.add_zero, Nat.le_refl, Nat.reduceLeDiff, Int.toNat_natCast, extA, ty60, ty36, ty3, bslA, elTI_eq ty34, elTI_eq ty24, setRows, List.replicate_succ, List.replicate_zero, List.getD_cons_zero, List.getD_cons_succ, Nat.reduceLT, Nat.reduceMul, true_and, and_true, cells_int, cells_agg]
  have hT : ∀ (S : St) (i a : Int), S.blk 96 = some (.rows 6 [[.int .i64 1, .int .i64 50, .int .i64 50, .sl 4 64 0 3, .nilsl, .nilsl]]) → S.blk 64 = some (.rows 4 (instRows begunTk.main)) →
      TlL ⟨0, [], [], [96, 64]⟩ S.blk ([.sl 6 96 0 1, .int .i64 i, .int .i64 a] ++ []) [.fz 6 (tkRows [begunTk]), .int .i64 i, .int .i64 a] := by
    intro S i a h1 h2
    refine .cons _ _ _ _ (Tl.rowsOf (by simp) h1 rfl rfl (by intro r hr; simp [tkRows] at hr; subst hr; rfl) ?_) (.cons _ _ _ _ (.same _ rfl) (.cons _ _ _ _ (.same _ rfl) .nil))
    intro j r r' hr hr'
    match j with
    | 0 =>
      cases hr; cases hr'
      exact .cons _ _ _ _ (.same _ rfl) (.cons _ _ _ _ (.same _ rfl) (.cons _ _ _ _ (.same _ rfl) (.cons _ _ _ _ (Tl.frzAll (by simp) h2 rfl (instRows_plain _) (instRows_rows _)) (.cons _ _ _ _ (.nf 4) (.cons _ _ _ _ (.nf 4) .nil)))))
    | j + 1 => simp at hr
  refine callW_look (caps := []) hP r0 (by rintro d U ⟨rfl, _⟩; rfl) [96, 64] (hT _ 0 100 rfl rfl) ?_
  rintro d U ⟨rfl, _⟩
  simp only [EV, lkO_cons, hP, List.map_cons, List.map_nil, Option.map_some, Option.map_none, reduceIte, Nat.reduceEqDiff, Nat.reduceAdd, Nat.reduceSub, List.cons_append, List.nil_append, binA, IN, buildA, fillA, faddrA, load_ptr, load_fp, rowOf_eq, blk_mk, packA, TK.isAgg, cellsOf, cellD, boxA, allocA, storeA, putCells, List.set_cons_zero, List.set_cons_succ, List.all_cons, List.all_nil, Bool.and_self, and_self, List.length_cons, List.length_nil, List.getElem?_cons_zero, List.getElem?_cons_succ, List.drop_zero, List.drop_succ_cons, List.take_succ_cons, List.take_zero, Nat.zero_add, Nat.add_zero, Nat.le_refl, Nat.reduceLeDiff, Int.toNat_natCast, extA]
  refine callW_look (caps := []) hP r1 (by rintro d U ⟨rfl, _⟩; rfl) [96, 64] (hT _ 1 100 rfl rfl) ?_
  rintro d U ⟨rfl, _⟩
  simp only [EV, lkO_cons, hP, List.map_cons, List.map_nil, Option.map_some, Option.map_none, reduceIte, Nat.reduceEqDiff, Nat.reduceAdd, Nat.reduceSub, List.cons_append, List.nil_append, binA, IN, buildA, fillA, faddrA, load_ptr, load_fp, rowOf_eq, blk_mk, packA, TK.isAgg, cellsOf, cellD, boxA, allocA, storeA, putCells, List.set_cons_zero, List.set_cons_succ, List.all_cons, List.all_nil, Bool.and_self, and_self, List.length_cons, List.length_nil, List.getElem?_cons_zero, List.getElem?_cons_succ, List.drop_zero, List.drop_succ_cons, List.take_succ_cons, List.take_zero, Nat.zero_add, Nat.add_zero, Nat.le_refl, Nat.reduceLeDiff, Int.toNat_natCast, extA, pickA, decide_true]
  exact hQ _ <| retQ_pure _ rfl rfl ⟨rfl, rfl⟩

set_option maxRecDepth 100000 in
theorem s_program (c : Nat) (h1 : 1 ≤ c) (h2 : c ≤ 20) : Pure Try.prog 19 [.int .i64 (c : Nat)] (.fz 4 (instRows (aloneCode c))) := by
  refine Spec.walk ok19 fun C Q hP hN hQ => ?_
  unfold c19
  have hq : ∀ q, ∀ n, C.N0 n → n < q := fun q n hn => absurd (hN n hn) (by omega)
  have hc : (0 : Int) ≤ c ∧ (c : Int) * ((32 : Nat) : Int) ≤ 281474976710656 := by omega
  have w0 : IntKind.i64.wrap ((c : Int) - 1) = ((c - 1 : Nat) : Int) := by rw [wrap_i64 (by omega) (by omega)]; omega
  have hz : List.replicate c [DV.int .i64 0, .int .i64 0, .int .i64 0, .int .i64 0] = instRows (List.replicate 0 ⟨1, 0, 0, 0⟩ ++ List.replicate (c - 0) ⟨0, 0, 0, 0⟩) := by simp [instRows, Inst.row]
  simp only [EV, lkO_cons, hP, List.map_cons, List.map_nil, Option.map_some, Option.map_none, reduceIte, Nat.reduceEqDiff, Nat.reduceAdd, Nat.reduceSub, List.cons_append, List.nil_append, binA, IN, buildA, fillA, faddrA, load_ptr, load_fp, rowOf_eq, blk_mk, packA, TK.isAgg, cellsOf, cellD, boxA, allocA, storeA, putCells, List.set_cons_zero, List.set_cons_succ, List.all_cons, List.all_nil, Bool.and_self, and_self, List.length_cons, List.length_nil, List.getElem?_cons_zero, List.getElem?_cons_succ, List.drop_zero, List.drop_succ_cons, List.take_succ_cons, List.take_zero, Nat.zero_add, Nat.add_zero, Nat.le_refl, Nat.reduceLeDiff, Int.toNat_natCast, extA, mkslA, elTI_eq ty34, ty60, true_and, hc, Int.toNat_natCast]
  refine LoopW.by (fun i => ⟨[(4, some (.int .i64 (i : Nat))), (3, some (.sl 4 0 0 c)), (0, some (.int .i64 c))], [(0, some (.rows 4 (instRows (List.replicate i ⟨1, 0, 0, 0⟩ ++ List.replicate (c - i) ⟨0, 0, 0, 0⟩))))], 16⟩) (fun i => i ≤ c - 1) (fun i => c - i) 0 (Nat.zero_le _) ?_ ?_
  · refine Sub.tell ⟨0, [(32, 0)], [], []⟩ (hq 0) rfl ⟨⟨_, rfl, .same _ rfl⟩, ⟨_, rfl, .sl 4 32 0 0 _ rfl⟩, ⟨_, rfl, .same _ rfl⟩, trivial⟩ ⟨.inl ⟨32, _, rfl, by simp, rfl, ?_⟩, trivial⟩
    rw [hz]; exact lowB_same (instRows_plain _)
  · intro i hi N hN'
    simp only [EV, lkO_cons, hP, List.map_cons, List.map_nil, Option.map_some, Option.map_none, reduceIte, Nat.reduceEqDiff, Nat.reduceAdd, Nat.reduceSub, List.cons_append, List.nil_append, binA, IN, buildA, fillA, faddrA, load_ptr, load_fp, rowOf_eq, blk_mk, packA, TK.isAgg, cellsOf, cellD, boxA, allocA, storeA, putCells, List.set_cons_zero, List.set_cons_succ, List.all_cons, List.all_nil, Bool.and_self, and_self, List.length_cons, List.length_nil, List.getElem?_cons_zero, List.getElem?_cons_succ, List.drop_zero, List.drop_succ_cons, List.take_succ_cons, List.take_zero, Nat.zero_add, Nat.add_zero, Nat.le_refl, Nat.reduceLeDiff, Int.toNat_natCast, extA, w0]
    refine condS_d (fun h => ?_) (fun h => ?_)
    · have hi2 : i < c - 1 := by omega
      have hb : (0 : Int) ≤ i ∧ (i : Int) < c := by omega
      have w1 : IntKind.i64.wrap ((i : Int) + 1) = i + 1 := wrap_i64 (by omega) (by omega)
      have hget : (instRows (List.replicate i ⟨1, 0, 0, 0⟩ ++ List.replicate (c - i) ⟨0, 0, 0, 0⟩))[i]? = some [.int .i64 0, .int .i64 0, .int .i64 0, .int .i64 0] := by
        rw [show c - i = (c - i - 1) + 1 from by omega, List.replicate_succ]
        simp [instRows, Inst.row]
      have hset : (instRows (List.replicate i ⟨1, 0, 0, 0⟩ ++ List.replicate (c - i) ⟨0, 0, 0, 0⟩)).set i [.int .i64 1, .int .i64 0, .int .i64 0, .int .i64 0] = instRows (List.replicate (i + 1) ⟨1, 0, 0, 0⟩ ++ List.replicate (c - (i + 1)) ⟨0, 0, 0, 0⟩) := by
        rw [show c - i = (c - (i + 1)) + 1 from by omega, List.replicate_succ, instRows_append, instRows_append, List.set_append_right _ _ (by rw [instRows_length]; simp)]
        rw [instRows_length, List.length_replicate, Nat.sub_self]
        rw [List.replicate_succ' (n := i), instRows_append, List.append_assoc]; rfl
      simp only [EV, lkO_cons, hP, List.map_cons, List.map_nil, Option.map_some, Option.map_none, reduceIte, Nat.reduceEqDiff, Nat.reduceAdd, Nat.reduceSub, List.cons_append, List.nil_append, binA, IN, buildA, fillA, faddrA, load_ptr, load_fp, rowOf_eq, blk_mk, packA, TK.isAgg, cellsOf, cellD, boxA, allocA, storeA, putCells, List.set_cons_zero, List.set_cons_succ, List.all_cons, List.all_nil, Bool.and_self, and_self, List.length_cons, List.length_nil, List.getElem?_cons_zero, List.getElem?_cons_succ, List.drop_zero, List.drop_succ_cons, List.take_succ_cons, List.take_zero, Nat.zero_add, Nat.add_zero, Nat.le_refl, Nat.reduceLeDiff, Int.toNat_natCast, extA, iaddr_sl, elSize_eq ty34 ty60, hb, ty60, ty3, hget, cells_int, hset, w1]
      refine hN' _ (i + 1) (by omega) (by omega) (Sub.tell ⟨1, [], [], []⟩ (hq 1) rfl ⟨⟨_, rfl, by rw [show (((i + 1 : Nat)) : Int) = i + 1 from by omega]; exact .same _ rfl⟩, ⟨_, rfl, .sl 4 0 0 0 _ rfl⟩, ⟨_, rfl, .same _ rfl⟩, trivial⟩ ⟨.inl ⟨0, _, rfl, by simp, rfl, lowB_same (instRows_plain _)⟩, trivial⟩)
    · have hi2 : i = c - 1 := by omega
      subst hi2
      simp only [EV, lkO_cons, hP, List.map_cons, List.map_nil, Option.map_some, Option.map_none, reduceIte, Nat.reduceEqDiff, Nat.reduceAdd, Nat.reduceSub, List.cons_append, List.nil_append, binA, IN]
      have e : List.replicate (c - 1) (⟨1, 0, 0, 0⟩ : Inst) ++ List.replicate (c - (c - 1)) ⟨0, 0, 0, 0⟩ = aloneCode c := by
        rw [show c - (c - 1) = 1 from by omega]; rfl
      rw [e]
      have hl : (aloneCode c).length = c := by simp [aloneCode]; omega
      exact hQ _ ⟨⟨0, [], [], [0]⟩, [.sl 4 0 0 c], [.fz 4 (instRows (aloneCode c))], [], rfl, Nat.le_refl _, rfl, .cons _ _ _ _ (Tl.frzAll (by simp) rfl (by rw [instRows_length, hl]) (instRows_plain _) (instRows_rows _)) .nil, trivial, rfl, rfl⟩

theorem rowP_one {t : Tk} (h : mayT t = 0) : rowP [t] = true := by
  simp [rowP, rowAt, tkAt, h]
theorem upI_mul_ge {x a : Int} (hx : 0 ≤ x) (ha : 1 ≤ a) : x ≤ upI x a * a := by
  rw [upI_eq hx ha]
  have := Int.lt_ediv_add_one_mul_self (x + a - 1) (show 0 < a by omega)
  have e : ((x + a - 1) / a + 1) * a = (x + a - 1) / a * a + a := by rw [Int.add_mul]; simp
  omega

/-- What is so of a task alone. -/
def fixA (c a x : Int) : Prop := c + upI x a * c = x
/-- The least number up to 200 that is so; 0: there is none. -/
def LeastA (c a m : Int) (upto : Int) : Prop := (m = 0 ∧ ∀ y, 1 ≤ y → y < upto → ¬ fixA c a y) ∨ (1 ≤ m ∧ m ≤ 200 ∧ fixA c a m ∧ ∀ y, 1 ≤ y → y < m → ¬ fixA c a y)

theorem alone_law {c : Nat} (h1 : 1 ≤ c) (h2 : c ≤ 20) {a m : Int} (ha : 1 ≤ a) (hm : LeastA c a m 201) :
    (a ≤ c → m = 0) ∧ (m = 0 → respP [aloneTk c] 0 a = (0, 0, 14)) ∧ (m ≠ 0 → (respP [aloneTk c] 0 a).1 = m ∧ (respP [aloneTk c] 0 a).2.2 = 0) := by
  obtain ⟨g1, g2, g3, g4⟩ := alone_all c (by omega) h1
  have hmay : ∀ k, k < [aloneTk c].length → mayT (tkAt [aloneTk c] k) = 0 := by
    intro k hk
    have : k = 0 := by simpa using hk
    subst this
    exact g1
  have hr : ∀ r, rhs [aloneTk c] 0 a r = c + upI r a * c := by
    intro r
    have e1 : tkAt [aloneTk c] 0 = aloneTk c := rfl
    unfold rhs
    simp only [lostUpto, sumUpto, e1, g2, g3]
    have : byOf [aloneTk c] ((0 : Nat) : Int) = 0 := g4
    rw [this, Int.max_eq_right (by omega)]; omega
  have hP : respP [aloneTk c] 0 a = respIter (rhs [aloneTk c] 0 a) 200 20000 c 1 := by
    unfold respP
    rw [if_neg (by rw [rowP_one g1]; simp; omega)]
    unfold respOf
    have e1 : tkAt [aloneTk c] (Int.toNat 0) = aloneTk c := rfl
    have e2 : byOf [aloneTk c] ((Int.toNat 0 : Nat) : Int) = 0 := g4
    rw [e1, e2, g2, Int.add_zero]; rfl
  have hno : a ≤ c → ∀ x, 0 ≤ x → ¬ fixA c a x := by
    intro hac x hx he
    unfold fixA at he
    have k1 := upI_mul_ge hx ha
    have k2 := upI_nonneg hx ha
    have k3 : upI x a * a ≤ upI x a * c := Int.mul_le_mul_of_nonneg_left hac k2
    omega
  rcases respIter_least (f := rhs [aloneTk c] 0 a) (E := 200) (b := c) (fun r s h0 h1 => rhs_mono hmay (by simp) ha h0 h1) (fun r h0 => by rw [hr]; have := upI_nonneg h0 ha; have := Int.mul_nonneg this (show (0 : Int) ≤ c by omega); omega)
    20000 c 1 (by omega) (by rw [hr]; have := upI_nonneg (r := c) (by omega) ha; have := Int.mul_nonneg this (show (0 : Int) ≤ c by omega); omega) (by omega)
    (fun x hx he => by rw [hr] at he; have := upI_nonneg hx ha; have := Int.mul_nonneg this (show (0 : Int) ≤ c by omega); omega) with ⟨k1, k2, k3, k4, k5, k6, k7, k8⟩ | ⟨k1, k2⟩
  · rw [← hP] at k1 k2 k3 k4 k5 k6 k7 k8
    rw [hr] at k2
    have hfix : fixA c a (respP [aloneTk c] 0 a).1 := k2
    have hm2 : m = (respP [aloneTk c] 0 a).1 := by
      rcases hm with ⟨_, h4⟩ | ⟨h4, h5, h6, h7⟩
      · exact absurd hfix (h4 _ (by omega) (by omega))
      · have l1 := k5 m (by omega) (by rw [hr]; exact h6)
        by_cases hlt : (respP [aloneTk c] 0 a).1 < m
        · exact absurd hfix (h7 _ (by omega) hlt)
        · omega
    refine ⟨fun hac => absurd hfix (hno hac _ (by omega)), fun h0 => by omega, fun _ => ⟨hm2.symm, k1⟩⟩
  · rw [← hP] at k1
    have hm0 : m = 0 := by
      rcases hm with ⟨h4, _⟩ | ⟨h4, h5, h6, h7⟩
      · exact h4
      · exact absurd (show rhs [aloneTk c] 0 a m = m by rw [hr]; exact h6) (k2 m (by omega) h5)
    exact ⟨fun _ => hm0, fun _ => k1, fun h => absurd hm0 h⟩

set_option maxRecDepth 100000 in
theorem s_BoundAlone (n : Int) (hn : 0 ≤ n ∧ n ≤ 255) (ap : Int) (ha : 0 ≤ ap ∧ ap ≤ 255) : Pure Try.prog 6 [.int .u8 n, .int .u8 ap] (.bool true) := by
  refine Spec.walk ok6 fun C Q hP hN hQ => ?_
  unfold c6
  have hq : ∀ q, ∀ n, C.N0 n → n < q := fun q n hn => absurd (hN n hn) (by omega)
  simp only [EV, lkO_cons, hP, List.map_cons, List.map_nil, Option.map_some, Option.map_none, reduceIte, Nat.reduceEqDiff, Nat.reduceAdd, Nat.reduceSub, List.cons_append, List.nil_append, binA, IN, buildA, fillA, faddrA, load_ptr, load_fp, rowOf_eq, blk_mk, packA, TK.isAgg, cellsOf, cellD, boxA, allocA, storeA, putCells, List.set_cons_zero, List.set_cons_succ, List.all_cons, List.all_nil, Bool.and_self, and_self, List.length_cons, List.length_nil, List.getElem?_cons_zero, List.getElem?_cons_succ, List.drop_zero, List.drop_succ_cons, List.take_succ_cons, List.take_zero, Nat.zero_add, Nat.add_zero, Nat.le_refl, Nat.reduceLeDiff, Int.toNat_natCast, extA]
  refine callW_pure hP s_begun17 rfl rfl ?_
  have hmod : n.tmod 20 = n % 20 := Int.tmod_eq_emod_of_nonneg hn.1
  obtain ⟨c, hc⟩ : ∃ c : Nat, (c : Int) = 1 + n % 20 := ⟨(1 + n % 20).toNat, by omega⟩
  have c1 : 1 ≤ c := by omega
  have c2 : c ≤ 20 := by omega
  have w0 : IntKind.i64.wrap (n % 20) = n % 20 := wrap_i64 (by omega) (by omega)
  have w1 : IntKind.i64.wrap (1 + n % 20) = c := by rw [wrap_i64 (by omega) (by omega)]; omega
  have w2 : IntKind.i64.wrap ap = ap := wrap_i64 (by omega) (by omega)
  have w3 : IntKind.i64.wrap (1 + ap) = 1 + ap := wrap_i64 (by omega) (by omega)
  have e20 : ¬ ((20 : Int) = 0) := by omega
  simp only [EV, lkO_cons, hP, List.map_cons, List.map_nil, Option.map_some, Option.map_none, reduceIte, Nat.reduceEqDiff, Nat.reduceAdd, Nat.reduceSub, List.cons_append, List.nil_append, binA, IN, buildA, fillA, faddrA, load_ptr, load_fp, rowOf_eq, blk_mk, packA, TK.isAgg, cellsOf, cellD, boxA, allocA, storeA, putCells, List.set_cons_zero, List.set_cons_succ, List.all_cons, List.all_nil, Bool.and_self, and_self, List.length_cons, List.length_nil, List.getElem?_cons_zero, List.getElem?_cons_succ, List.drop_zero, List.drop_succ_cons, List.take_succ_cons, List.take_zero, Nat.zero_add, Nat.add_zero, Nat.le_refl, Nat.reduceLeDiff, Int.toNat_natCast, extA, unA, Bool.not_true, convA, ty5, ty3, ty2, e20, if_false, hmod, w0, w1, w2, w3]
  refine callW_pure hP (s_program c c1 c2) rfl (by simp only [plain, instRows_plain]) ?_
  simp only [EV, lkO_cons, hP, List.map_cons, List.map_nil, Option.map_some, Option.map_none, reduceIte, Nat.reduceEqDiff, Nat.reduceAdd, Nat.reduceSub, List.cons_append, List.nil_append, binA, IN, buildA, fillA, faddrA, load_ptr, load_fp, rowOf_eq, blk_mk, packA, TK.isAgg, cellsOf, cellD, boxA, allocA, storeA, putCells, List.set_cons_zero, List.set_cons_succ, List.all_cons, List.all_nil, Bool.and_self, and_self, List.length_cons, List.length_nil, List.getElem?_cons_zero, List.getElem?_cons_succ, List.drop_zero, List.drop_succ_cons, List.take_succ_cons, List.take_zero, Nat.zero_add, Nat.add_zero, Nat.le_refl, Nat.reduceLeDiff, Int.toNat_natCast, extA, convA, ty5, ty2, ty36, bslA, elTI_eq ty24, setRows, List.replicate_succ, List.replicate_zero, List.getD_cons_zero, Nat.reduceLT, Nat.reduceMul, true_and, and_true, cells_int, cells_agg, w2, w3]
  have hf : ∀ t ∈ [aloneTk c], t.fit := by
    intro t ht
    simp only [List.mem_singleton] at ht
    subst ht
    unfold Tk.fit aloneTk aloneCode; simp; omega
  have hlaw := fun m => alone_law c1 c2 (a := 1 + ap) (m := m) (by omega)
  have hresp := s_resp [aloneTk c] (by simp) hf 0 (1 + ap) (by unfold i64r; omega) (by unfold i64r; omega)
  generalize respP [aloneTk c] 0 (1 + ap) = R at *
  obtain ⟨R1, R2, R3⟩ := R
  refine callW_look (caps := []) hP hresp (by rintro d U ⟨rfl, _⟩; rfl) [176]
    (.cons _ _ _ _ (Tl.rowsOf (by simp) rfl rfl rfl (by intro r hr; simp [tkRows] at hr; subst hr; rfl) ?_) (.cons _ _ _ _ (.same _ rfl) (.cons _ _ _ _ (.same _ rfl) .nil))) ?_
  · intro j r r' hr hr'
    match j with
    | 0 =>
      cases hr; cases hr'
      exact .cons _ _ _ _ (.same _ rfl) (.cons _ _ _ _ (.same _ rfl) (.cons _ _ _ _ (.same _ rfl) (.cons _ _ _ _ (.same _ (by simp only [plain]; exact instRows_plain _)) (.cons _ _ _ _ (.nf 4) (.cons _ _ _ _ (.nf 4) .nil)))))
    | j + 1 => simp at hr
  rintro d U ⟨rfl, _⟩
  simp only [EV, lkO_cons, hP, List.map_cons, List.map_nil, Option.map_some, Option.map_none, reduceIte, Nat.reduceEqDiff, Nat.reduceAdd, Nat.reduceSub, List.cons_append, List.nil_append, binA, IN, buildA, fillA, faddrA, load_ptr, load_fp, rowOf_eq, blk_mk, packA, TK.isAgg, cellsOf, cellD, boxA, allocA, storeA, putCells, List.set_cons_zero, List.set_cons_succ, List.all_cons, List.all_nil, Bool.and_self, and_self, List.length_cons, List.length_nil, List.getElem?_cons_zero, List.getElem?_cons_succ, List.drop_zero, List.drop_succ_cons, List.take_succ_cons, List.take_zero, Nat.zero_add, Nat.add_zero, Nat.le_refl, Nat.reduceLeDiff, Int.toNat_natCast, extA]
  refine LoopW.by (fun (x : Nat × Int) => ⟨[(11, some (.int .i64 (x.1 : Nat))), (10, some (.int .i64 x.2)), (5, some (.int .i64 c)), (7, some (.int .i64 R1)), (9, some (.int .i64 R3)), (1, some (.int .u8 ap))], [], 0⟩)
    (fun x => 1 ≤ x.1 ∧ x.1 ≤ 201 ∧ LeastA c (1 + ap) x.2 x.1) (fun x => 202 - x.1) (1, 0) ⟨by simp, by simp, .inl ⟨rfl, fun y h1 h2 => by simp only at h2; omega⟩⟩ ?_ ?_
  · refine Sub.pl 0 hN (Nat.zero_le _) (Nat.zero_le _) ?_
    simp only [plT, EV, lkO_cons, hP, List.map_cons, List.map_nil, Option.map_some, Option.map_none, reduceIte, Nat.reduceEqDiff, Nat.reduceAdd, Nat.reduceSub, List.cons_append, List.nil_append, plain, and_true, true_and]
    rfl
  · rintro ⟨x, m⟩ ⟨hx1, hx2, hm⟩ N hN'
    simp only at hx1 hx2 hm hN'
    have w4 : IntKind.i64.wrap ((x : Int) + 1) = ((x + 1 : Nat) : Int) := by rw [wrap_i64 (by omega) (by omega)]; omega
    have u0 := upI_nonneg (r := x) (by omega) (show 1 ≤ 1 + ap by omega)
    have u1 := upI_le (r := x) (by omega) (show 1 ≤ 1 + ap by omega)
    have u2 : upI x (1 + ap) * c ≤ 201 * 20 := Int.mul_le_mul (by omega) (by omega) (by omega) (by omega)
    have u3 := Int.mul_nonneg u0 (show (0 : Int) ≤ c by omega)
    have ue : ((x : Int) + ap).tdiv (1 + ap) = upI x (1 + ap) := by
      rw [upI_eq (by omega) (by omega), Int.tdiv_eq_ediv_of_nonneg (by omega)]; congr 1; omega
    have w5 : IntKind.i64.wrap ((x : Int) + ap) = x + ap := wrap_i64 (by omega) (by omega)
    have w6 : IntKind.i64.wrap (upI x (1 + ap)) = upI x (1 + ap) := wrap_i64 (by omega) (by omega)
    have w7 : IntKind.i64.wrap (upI x (1 + ap) * c) = upI x (1 + ap) * c := wrap_i64 (by omega) (by omega)
    have w8 : IntKind.i64.wrap ((c : Int) + upI x (1 + ap) * c) = c + upI x (1 + ap) * c := wrap_i64 (by omega) (by omega)
    have ne : ¬ (1 + ap = 0) := by omega
    simp only [EV, lkO_cons, hP, List.map_cons, List.map_nil, Option.map_some, Option.map_none, reduceIte, Nat.reduceEqDiff, Nat.reduceAdd, Nat.reduceSub, List.cons_append, List.nil_append, binA, IN, buildA, fillA, faddrA, load_ptr, load_fp, rowOf_eq, blk_mk, packA, TK.isAgg, cellsOf, cellD, boxA, allocA, storeA, putCells, List.set_cons_zero, List.set_cons_succ, List.all_cons, List.all_nil, Bool.and_self, and_self, List.length_cons, List.length_nil, List.getElem?_cons_zero, List.getElem?_cons_succ, List.drop_zero, List.drop_succ_cons, List.take_succ_cons, List.take_zero, Nat.zero_add, Nat.add_zero, Nat.le_refl, Nat.reduceLeDiff, Int.toNat_natCast, extA]
    by_cases hgo : (x : Int) ≤ 200 ∧ m = 0
    · obtain ⟨g1, rfl⟩ := hgo
      have hno : ∀ y, 1 ≤ y → y < (x : Int) → ¬ fixA c (1 + ap) y := by
        rcases hm with h | h
        · exact h.2
        · omega
      simp only [EV, lkO_cons, hP, List.map_cons, List.map_nil, Option.map_some, Option.map_none, reduceIte, Nat.reduceEqDiff, Nat.reduceAdd, Nat.reduceSub, List.cons_append, List.nil_append, binA, IN, buildA, fillA, faddrA, load_ptr, load_fp, rowOf_eq, blk_mk, packA, TK.isAgg, cellsOf, cellD, boxA, allocA, storeA, putCells, List.set_cons_zero, List.set_cons_succ, List.all_cons, List.all_nil, Bool.and_self, and_self, List.length_cons, List.length_nil, List.getElem?_cons_zero, List.getElem?_cons_succ, List.drop_zero, List.drop_succ_cons, List.take_succ_cons, List.take_zero, Nat.zero_add, Nat.add_zero, Nat.le_refl, Nat.reduceLeDiff, Int.toNat_natCast, extA, g1, decide_true, pickA, convA, ty5, ty3, w2, w3, w5, ne, if_false, ue, w6, w7, w8]
      refine condS_d (fun h => ?_) (fun h => ?_)
      · simp only [EV, lkO_cons, hP, List.map_cons, List.map_nil, Option.map_some, Option.map_none, reduceIte, Nat.reduceEqDiff, Nat.reduceAdd, Nat.reduceSub, List.cons_append, List.nil_append, binA, IN, buildA, fillA, faddrA, load_ptr, load_fp, rowOf_eq, blk_mk, packA, TK.isAgg, cellsOf, cellD, boxA, allocA, storeA, putCells, List.set_cons_zero, List.set_cons_succ, List.all_cons, List.all_nil, Bool.and_self, and_self, List.length_cons, List.length_nil, List.getElem?_cons_zero, List.getElem?_cons_succ, List.drop_zero, List.drop_succ_cons, List.take_succ_cons, List.take_zero, Nat.zero_add, Nat.add_zero, Nat.le_refl, Nat.reduceLeDiff, Int.toNat_natCast, extA, w4]
        refine hN' _ (x + 1, x) ⟨by simp only; omega, by simp only; omega, .inr ⟨by simp only; omega, by simp only; omega, h, fun y h1 h2 => hno y h1 h2⟩⟩ (by simp only; omega) (Sub.pl 0 hN (Nat.zero_le _) (Nat.zero_le _) ?_)
        simp only [plT, EV, lkO_cons, hP, List.map_cons, List.map_nil, Option.map_some, Option.map_none, reduceIte, Nat.reduceEqDiff, Nat.reduceAdd, Nat.reduceSub, List.cons_append, List.nil_append, plain, and_true, true_and]
        try rfl
      · simp only [EV, lkO_cons, hP, List.map_cons, List.map_nil, Option.map_some, Option.map_none, reduceIte, Nat.reduceEqDiff, Nat.reduceAdd, Nat.reduceSub, List.cons_append, List.nil_append, binA, IN, buildA, fillA, faddrA, load_ptr, load_fp, rowOf_eq, blk_mk, packA, TK.isAgg, cellsOf, cellD, boxA, allocA, storeA, putCells, List.set_cons_zero, List.set_cons_succ, List.all_cons, List.all_nil, Bool.and_self, and_self, List.length_cons, List.length_nil, List.getElem?_cons_zero, List.getElem?_cons_succ, List.drop_zero, List.drop_succ_cons, List.take_succ_cons, List.take_zero, Nat.zero_add, Nat.add_zero, Nat.le_refl, Nat.reduceLeDiff, Int.toNat_natCast, extA, w4]
        refine hN' _ (x + 1, 0) ⟨by simp only; omega, by simp only; omega, .inl ⟨rfl, fun y h1 h2 => ?_⟩⟩ (by simp only; omega) (Sub.pl 0 hN (Nat.zero_le _) (Nat.zero_le _) ?_)
        · by_cases hy : y < (x : Int)
          · exact hno y h1 hy
          · simp only at h2
            have : y = (x : Int) := by omega
            subst this
            exact h
        · simp only [plT, EV, lkO_cons, hP, List.map_cons, List.map_nil, Option.map_some, Option.map_none, reduceIte, Nat.reduceEqDiff, Nat.reduceAdd, Nat.reduceSub, List.cons_append, List.nil_append, plain, and_true, true_and]
          try rfl
    · have hm201 : LeastA c (1 + ap) m 201 := by
        rcases hm with ⟨h, h'⟩ | h
        · refine .inl ⟨h, ?_⟩
          have : (x : Int) = 201 := by
            by_cases h2 : (x : Int) ≤ 200
            · exact absurd ⟨h2, h⟩ hgo
            · omega
          rw [← this]; exact h'
        · exact .inr h
      obtain ⟨l1, l2, l3⟩ := hlaw m hm201
      by_cases hm0 : m = 0
      · subst hm0
        have e := l2 rfl
        simp only [Prod.mk.injEq] at e
        obtain ⟨rfl, rfl, rfl⟩ := e
        have gx : ¬ (x : Int) ≤ 200 := fun h => hgo ⟨h, rfl⟩
        by_cases hc3 : ap < (c : Int)
        · simp only [EV, lkO_cons, hP, List.map_cons, List.map_nil, Option.map_some, Option.map_none, reduceIte, Nat.reduceEqDiff, Nat.reduceAdd, Nat.reduceSub, List.cons_append, List.nil_append, binA, IN, buildA, fillA, faddrA, load_ptr, load_fp, rowOf_eq, blk_mk, packA, TK.isAgg, cellsOf, cellD, boxA, allocA, storeA, putCells, List.set_cons_zero, List.set_cons_succ, List.all_cons, List.all_nil, Bool.and_self, and_self, List.length_cons, List.length_nil, List.getElem?_cons_zero, List.getElem?_cons_succ, List.drop_zero, List.drop_succ_cons, List.take_succ_cons, List.take_zero, Nat.zero_add, Nat.add_zero, Nat.le_refl, Nat.reduceLeDiff, Int.toNat_natCast, extA, gx, decide_false, decide_true, Bool.not_true, pickA, convA, ty5, ty3, w2, hc3]
          exact hQ _ <| retQ_pure _ rfl rfl ⟨rfl, rfl⟩
        · simp only [EV, lkO_cons, hP, List.map_cons, List.map_nil, Option.map_some, Option.map_none, reduceIte, Nat.reduceEqDiff, Nat.reduceAdd, Nat.reduceSub, List.cons_append, List.nil_append, binA, IN, buildA, fillA, faddrA, load_ptr, load_fp, rowOf_eq, blk_mk, packA, TK.isAgg, cellsOf, cellD, boxA, allocA, storeA, putCells, List.set_cons_zero, List.set_cons_succ, List.all_cons, List.all_nil, Bool.and_self, and_self, List.length_cons, List.length_nil, List.getElem?_cons_zero, List.getElem?_cons_succ, List.drop_zero, List.drop_succ_cons, List.take_succ_cons, List.take_zero, Nat.zero_add, Nat.add_zero, Nat.le_refl, Nat.reduceLeDiff, Int.toNat_natCast, extA, gx, decide_false, decide_true, Bool.not_true, pickA, convA, ty5, ty3, w2, hc3]
          exact hQ _ <| retQ_pure _ rfl rfl ⟨rfl, rfl⟩
      · obtain ⟨e1, e2⟩ := l3 hm0
        simp only at e1 e2
        subst e1
        subst e2
        have hc3 : ¬ ap < (c : Int) := fun h => hm0 (l1 (by omega))
        by_cases gx : (x : Int) ≤ 200
        · simp only [EV, lkO_cons, hP, List.map_cons, List.map_nil, Option.map_some, Option.map_none, reduceIte, Nat.reduceEqDiff, Nat.reduceAdd, Nat.reduceSub, List.cons_append, List.nil_append, binA, IN, buildA, fillA, faddrA, load_ptr, load_fp, rowOf_eq, blk_mk, packA, TK.isAgg, cellsOf, cellD, boxA, allocA, storeA, putCells, List.set_cons_zero, List.set_cons_succ, List.all_cons, List.all_nil, Bool.and_self, and_self, List.length_cons, List.length_nil, List.getElem?_cons_zero, List.getElem?_cons_succ, List.drop_zero, List.drop_succ_cons, List.take_succ_cons, List.take_zero, Nat.zero_add, Nat.add_zero, Nat.le_refl, Nat.reduceLeDiff, Int.toNat_natCast, extA, gx, hm0, decide_false, decide_true, pickA, convA, ty5, ty3, w2, hc3]
          exact hQ _ <| retQ_pure _ rfl rfl ⟨rfl, rfl⟩
        · simp only [EV, lkO_cons, hP, List.map_cons, List.map_nil, Option.map_some, Option.map_none, reduceIte, Nat.reduceEqDiff, Nat.reduceAdd, Nat.reduceSub, List.cons_append, List.nil_append, binA, IN, buildA, fillA, faddrA, load_ptr, load_fp, rowOf_eq, blk_mk, packA, TK.isAgg, cellsOf, cellD, boxA, allocA, storeA, putCells, List.set_cons_zero, List.set_cons_succ, List.all_cons, List.all_nil, Bool.and_self, and_self, List.length_cons, List.length_nil, List.getElem?_cons_zero, List.getElem?_cons_succ, List.drop_zero, List.drop_succ_cons, List.take_succ_cons, List.take_zero, Nat.zero_add, Nat.add_zero, Nat.le_refl, Nat.reduceLeDiff, Int.toNat_natCast, extA, gx, hm0, decide_false, decide_true, pickA, convA, ty5, ty3, w2, hc3]
          exact hQ _ <| retQ_pure _ rfl rfl ⟨rfl, rfl⟩
end Go.Fv
