/- Part 5 of the proof: RowBoundRises. -/
import Derived.Below
import Derived.Test.YtghoeoidffkijaaBq4
set_option linter.unusedSimpArgs false
set_option linter.unusedVariables false
/- CONTRACTS: the document's MayCode. -/
namespace Go.Fv
open Go.Proofs

def cntH (ps : List Area) (i : Nat) : Nat := (ps.filter fun p => p.has i).length
theorem cntH_take {ps : List Area} {k : Nat} (h : k < ps.length) (i : Nat) : cntH (ps.take (k + 1)) i = cntH (ps.take k) i + (if ps[k].has i = true then 1 else 0) := by
  unfold cntH
  rw [List.take_succ_eq_append_getElem h, List.filter_append, List.length_append]
  cases hb : ps[k].has i <;> simp [hb]
theorem cntH_le (ps : List Area) (i : Nat) : cntH ps i ≤ ps.length := List.length_filter_le ..
theorem cntB_le (ps : List Area) (i : Nat) : 0 ≤ cntB ps i ∧ cntB ps i ≤ ps.length := cntB_bound ps i
theorem cntH_zero {ps : List Area} {i : Nat} : cntH ps i = 0 ↔ ∀ p ∈ ps, p.has i = false := by
  unfold cntH
  rw [List.length_eq_zero_iff, List.filter_eq_nil_iff]
  simp

set_option maxRecDepth 100000 in
set_option maxHeartbeats 4000000 in
theorem s_rMay (l : List Inst) (hl0 : l.length ≤ maxL) : Pure Try.prog 59 [.fz 4 (instRows l)] (.bool (shapeMay l)) := by
  refine Spec.walk ok59 fun C Q hP hN hQ => ?_
  unfold c59
  have hno : ∀ S : St, shapeMay l = false → S.get 2 = some (.bool false) → Q S := fun S hs hg => by
    refine hQ _ <| retQ_pure [.bool false] (by simp only [resD, hg]; rfl) rfl ⟨?_, rfl⟩
    rw [hs]; rfl
  simp only [EV, EX, hP, reduceIte, Nat.reduceEqDiff, Nat.reduceAdd, Nat.reduceSub, binA, IN, len_fz ty34, instRows_length]
  by_cases hl1 : ¬ 1 ≤ l.length
  · have h1 : (l.length : Int) < 1 := by omega
    simp only [h1, decide_true, EV, EX, hP, reduceIte, Nat.reduceEqDiff, Nat.reduceAdd, Nat.reduceSub, binA, IN, pickA]
    exact hno _ (shapeMay_no fun h => hl1 h.1.1) rfl
  have hl1 : 1 ≤ l.length := Decidable.not_not.1 hl1
  by_cases hl : ¬ l.length ≤ 24
  · have h1 : ¬ (l.length : Int) < 1 := by omega
    have h2 : (24 : Int) < l.length := by omega
    simp only [h1, h2, decide_true, decide_false, EV, EX, hP, reduceIte, Nat.reduceEqDiff, Nat.reduceAdd, Nat.reduceSub, binA, IN, pickA, len_fz ty34, instRows_length]
    exact hno _ (shapeMay_no fun h => hl h.1.2) rfl
  have hl : l.length ≤ 24 := Decidable.not_not.1 hl
  have n1 : ¬ (l.length : Int) < 1 := by omega
  have n2 : ¬ (24 : Int) < l.length := by omega
  have w1 : IntKind.i64.wrap ((l.length : Int) - 1) = ((l.length - 1 : Nat) : Int) := by rw [wrap_i64 (by omega) (by omega)]; omega
  simp only [n1, n2, decide_false, EV, EX, hP, reduceIte, Nat.reduceEqDiff, Nat.reduceAdd, Nat.reduceSub, binA, IN, pickA, len_fz ty34, instRows_length]
  refine LoopW.by (fun i => ⟨[(3, some (.int .i64 (i : Nat))), (0, some (.fz 4 (instRows l)))], [], 0⟩) (fun i => i ≤ l.length ∧ (∀ k (h : k < l.length), k < i → l[k].may = true ∧ (l[k].op = 0 ↔ k = l.length - 1))) (fun i => l.length - i) 0 ⟨Nat.zero_le _, fun k _ h => absurd h (Nat.not_lt_zero _)⟩ ?_ ?_
  · refine Sub.pl 0 hN (Nat.zero_le _) (Nat.zero_le _) ?_
    simp only [plT, EV, EX, hP, reduceIte, Nat.reduceEqDiff, Nat.reduceAdd, Nat.reduceSub, plain, instRows_plain, and_true, true_and]
    rfl
  · rintro i ⟨hi, hall⟩ N hN'
    simp only [EV, EX, hP, reduceIte, Nat.reduceEqDiff, Nat.reduceAdd, Nat.reduceSub, binA, IN, len_fz ty34, instRows_length]
    refine condS_d (fun h => ?_) (fun h => ?_)
    · have hi2 : i < l.length := by omega
      have hb : (0 : Int) ≤ i ∧ (i : Int) < l.length := by omega
      have w2 : IntKind.i64.wrap ((i : Int) + 1) = ((i + 1 : Nat) : Int) := by rw [wrap_i64 (by omega) (by omega)]; omega
      have hm := s_mayInst l[i]
      simp only [EV, EX, hP, reduceIte, Nat.reduceEqDiff, Nat.reduceAdd, Nat.reduceSub, binA, IN, MX, buildA, fillA, faddrA, load_ptr, load_fp, rowOf_eq, packA, TK.isAgg, cellsOf, cellD, boxA, allocA, storeA, putCells, Nat.reduceLeDiff, extA, iaddr_fz, elSize_eq ty34 ty60, instRows_length, hb, instRows_getD hi2, Inst.row, ty60, ty3] at hm ⊢
      refine callW_pure hP hm rfl rfl ?_
      cases hmay : l[i].may with
      | false =>
        simp only [EV, EX, hP, reduceIte, Nat.reduceEqDiff, Nat.reduceAdd, Nat.reduceSub, binA, IN, unA, pickA, Bool.not_false]
        exact hno _ (shapeMay_no fun h => by rw [h.2.1 _ (List.getElem_mem hi2)] at hmay; cases hmay) rfl
      | true =>
        have hbe : ∀ b1 b2 : Bool, binA (tiOf Try.prog) .neq 4 (some (.bool b1)) (some (.bool b2)) = some (.bool (!decide (b1 = b2))) := by
          intro b1 b2
          simp only [binA, ty4]
        simp only [EV, EX, hP, reduceIte, Nat.reduceEqDiff, Nat.reduceAdd, Nat.reduceSub, binA, IN, MX, buildA, fillA, faddrA, load_ptr, load_fp, rowOf_eq, packA, TK.isAgg, cellsOf, cellD, boxA, allocA, storeA, putCells, Nat.reduceLeDiff, extA, unA, pickA, Bool.not_true, iaddr_fz, elSize_eq ty34 ty60, instRows_length, hb, instRows_getD hi2, Inst.row, ty60, ty3, len_fz ty34, w1, hbe]
        refine condS_i (fun h2 => ?_) (fun h2 => ?_)
        · simp only [EV, EX, hP, reduceIte, Nat.reduceEqDiff, Nat.reduceAdd, Nat.reduceSub, binA, IN]
          refine hno _ (shapeMay_no fun h => ?_) rfl
          have := (ends_iff hl1).1 h.2.2.1 i hi2
          rw [nth_get hi2] at this
          simp only [Bool.not_eq_true', decide_eq_false_iff_not] at h2
          apply h2
          rw [decide_eq_decide, this]; omega
        · simp only [EV, EX, hP, reduceIte, Nat.reduceEqDiff, Nat.reduceAdd, Nat.reduceSub, binA, IN, w2]
          refine hN' _ (i + 1) ⟨hi2, fun k hk hki => ?_⟩ (by omega) (Sub.pl 0 hN (Nat.zero_le _) (Nat.zero_le _) ?_)
          · by_cases e : k = i
            · subst e
              refine ⟨hmay, ?_⟩
              simp only [Bool.not_eq_true, Bool.not_eq_false', decide_eq_true_eq, decide_eq_decide] at h2
              rw [h2]; omega
            · exact hall k hk (by omega)
          · simp only [plT, EV, EX, hP, reduceIte, Nat.reduceEqDiff, Nat.reduceAdd, Nat.reduceSub, plain, instRows_plain, and_true, true_and]
    · have hi2 : i = l.length := by omega
      subst hi2
      have hx : ∀ x ∈ l, x.may = true := fun x hx => by
        obtain ⟨k, hk, rfl⟩ := List.getElem_of_mem hx
        exact (hall k hk hk).1
      have hends : idxOf (fun x : Inst => decide (x.op = 0)) l = (l.length : Int) - 1 := (ends_iff hl1).2 fun k hk => by rw [nth_get hk]; exact (hall k hk hk).2
      have hps := Nat.le_trans (areasOf_length l) hl
      have hmem := fun p => areasOf_mem hx (p := p)
      have hrb : ∀ p ∈ areasOf l, ∀ q ∈ areasOf l, refBad p q = pairBad q p := fun p hp q hq => by
        obtain ⟨o, h1, h2, h3, h4, h5⟩ := hmem p hp
        obtain ⟨o', h1', h2', h3', h4', h5'⟩ := hmem q hq
        exact refBad_eq h4 h4' (by omega)
      simp only [EV, EX, hP, reduceIte, Nat.reduceEqDiff, Nat.reduceAdd, Nat.reduceSub, binA, IN]
      refine callW_pure hP (s_areas l hl hx) (by simp [plainL, plain, instRows_plain]) (by simp [plain, areaRows_plain]) ?_
      simp only [EV, EX, hP, reduceIte, Nat.reduceEqDiff, Nat.reduceAdd, Nat.reduceSub, binA, IN]
      have hnn : ∀ i k (hi : i < (areasOf l).length) (hk : k < (areasOf l).length), refBad (areasOf l)[i] (areasOf l)[k] = true → shapeMay l = false := fun i k hi hk hb => shapeMay_no fun h => by
        have := h.2.2.2.1
        unfold nestOk at this
        rw [nest_bad hk hi (by rw [← hrb _ (List.getElem_mem hi) _ (List.getElem_mem hk)]; exact hb)] at this
        cases this
      have hself : ∀ p ∈ areasOf l, pairBad p p = false := fun p hp => by
        obtain ⟨o, h1, h2, h3, h4, h5⟩ := hmem p hp
        exact pairBad_self h4 (by omega)
      refine LoopW.by (fun i => ⟨[(5, some (.int .i64 (i : Nat))), (4, some (.fz 4 (areaRows (areasOf l)))), (0, some (.fz 4 (instRows l)))], [], 0⟩) (fun i => i ≤ (areasOf l).length ∧ ((areasOf l).take i).all (fun p => decide (p.q < (l.length : Int) - 1) && (areasOf l).all fun q => !pairBad q p) = true) (fun i => (areasOf l).length - i) 0 ⟨Nat.zero_le _, rfl⟩ ?_ ?_
      · refine Sub.pl 0 hN (Nat.zero_le _) (Nat.zero_le _) ?_
        simp only [plT, EV, EX, hP, reduceIte, Nat.reduceEqDiff, Nat.reduceAdd, Nat.reduceSub, plain, instRows_plain, areaRows_plain, and_true, true_and]
        first | rfl | exact ⟨rfl, rfl⟩
      · rintro i ⟨hi, hall1⟩ N hN'
        simp only [EV, EX, hP, reduceIte, Nat.reduceEqDiff, Nat.reduceAdd, Nat.reduceSub, binA, IN, len_fz ty111, areaRows_length]
        refine condS_d (fun h => ?_) (fun h => ?_)
        · have hi2 : i < (areasOf l).length := by omega
          have hb : (0 : Int) ≤ i ∧ (i : Int) < (areasOf l).length := by omega
          have w2 : IntKind.i64.wrap ((i : Int) + 1) = ((i + 1 : Nat) : Int) := by rw [wrap_i64 (by omega) (by omega)]; omega
          have hri : (areaRows (areasOf l)).getD i [] = (areasOf l)[i].row := areaRows_getD hi2
          have hmi : (areasOf l)[i] ∈ areasOf l := List.getElem_mem hi2
          have hti := all_take (p := fun p : Area => decide (p.q < (l.length : Int) - 1) && (areasOf l).all fun q => !pairBad q p) hi2 hall1
          have hni := hnn i
          obtain ⟨A, hA⟩ : ∃ A, A = (areasOf l)[i] := ⟨_, rfl⟩
          rw [← hA] at hri hmi hti
          simp only [EV, EX, hP, reduceIte, Nat.reduceEqDiff, Nat.reduceAdd, Nat.reduceSub, binA, IN, MX, buildA, fillA, faddrA, load_ptr, load_fp, rowOf_eq, packA, TK.isAgg, cellsOf, cellD, boxA, allocA, storeA, putCells, Nat.reduceLeDiff, extA, iaddr_fz, elSize_eq ty111 ty114, areaRows_length, hb, hri, Area.row, ty114, ty3, len_fz ty34, instRows_length, w1]
          refine condS_d (fun h2 => ?_) (fun h2 => ?_)
          · simp only [EV, EX, hP, reduceIte, Nat.reduceEqDiff, Nat.reduceAdd, Nat.reduceSub, binA, IN]
            refine hno _ (shapeMay_no fun h => ?_) rfl
            have h3 := h.2.2.2.1
            unfold nestOk at h3
            rw [Bool.and_eq_true] at h3
            have h4 := List.all_eq_true.1 h3.1 A hmi
            rw [Bool.and_eq_true, decide_eq_true_eq] at h4
            omega
          · simp only [EV, EX, hP, reduceIte, Nat.reduceEqDiff, Nat.reduceAdd, Nat.reduceSub, binA, IN]
            refine LoopW.by (fun k => ⟨[(6, some (.int .i64 (k : Nat))), (5, some (.int .i64 (i : Nat))), (4, some (.fz 4 (areaRows (areasOf l)))), (0, some (.fz 4 (instRows l)))], [], 0⟩) (fun k => k ≤ (areasOf l).length ∧ ((areasOf l).take k).all (fun q => !pairBad q A) = true) (fun k => (areasOf l).length - k) 0 ⟨Nat.zero_le _, rfl⟩ ?_ ?_
            · refine Sub.pl 0 hN (Nat.zero_le _) (Nat.zero_le _) ?_
              simp only [plT, EV, EX, hP, reduceIte, Nat.reduceEqDiff, Nat.reduceAdd, Nat.reduceSub, plain, instRows_plain, areaRows_plain, and_true, true_and]
              first | rfl | exact ⟨rfl, rfl⟩
            · rintro k ⟨hk, hall2⟩ N2 hN2
              simp only [EV, EX, hP, reduceIte, Nat.reduceEqDiff, Nat.reduceAdd, Nat.reduceSub, binA, IN, len_fz ty111, areaRows_length]
              refine condS_d (fun h => ?_) (fun h => ?_)
              · have hk2 : k < (areasOf l).length := by omega
                have hbk : (0 : Int) ≤ k ∧ (k : Int) < (areasOf l).length := by omega
                have w3 : IntKind.i64.wrap ((k : Int) + 1) = ((k + 1 : Nat) : Int) := by rw [wrap_i64 (by omega) (by omega)]; omega
                have hrk : (areaRows (areasOf l)).getD k [] = (areasOf l)[k].row := areaRows_getD hk2
                have hmk : (areasOf l)[k] ∈ areasOf l := List.getElem_mem hk2
                have htk := all_take (p := fun q : Area => !pairBad q A) hk2 hall2
                have hnk := hni k hi2 hk2
                have hik : i = k → A = (areasOf l)[k] := by rintro rfl; exact hA
                rw [← hA] at hnk
                obtain ⟨B, hB⟩ : ∃ B, B = (areasOf l)[k] := ⟨_, rfl⟩
                rw [← hB] at hrk hmk htk hnk hik
                have hnx : ∀ S : St, pairBad B A = false → S.get 6 = some (.int .i64 ((k + 1 : Nat) : Int)) → S.get 5 = some (.int .i64 (i : Nat)) → S.get 4 = some (.fz 4 (areaRows (areasOf l))) → S.get 0 = some (.fz 4 (instRows l)) → N2 S := by
                  intro S hp g1 g2 g3 g4
                  refine hN2 _ (k + 1) ⟨hk2, htk (by rw [hp]; rfl)⟩ (by omega) (Sub.pl 0 hN (Nat.zero_le _) (Nat.zero_le _) ?_)
                  simp only [plT, EV, EX, hP, reduceIte, Nat.reduceEqDiff, Nat.reduceAdd, Nat.reduceSub, g1, g2, g3, g4, plain, instRows_plain, areaRows_plain, and_true, true_and]
                simp only [EV, EX, hP, reduceIte, Nat.reduceEqDiff, Nat.reduceAdd, Nat.reduceSub, binA, IN]
                refine condS_d (fun h3 => ?_) (fun h3 => ?_)
                · have : i = k := by omega
                  simp only [EV, EX, hP, reduceIte, Nat.reduceEqDiff, Nat.reduceAdd, Nat.reduceSub, binA, IN, w3]
                  refine hnx _ ?_ rfl rfl rfl rfl
                  rw [← hik this]; exact hself A hmi
                · obtain ⟨oa, hA1, hA2, hA3, hA4, hA5⟩ := hmem A hmi
                  obtain ⟨ob, hB1, hB2, hB3, hB4, hB5⟩ := hmem B hmk
                  have hrab := hrb A hmi B hmk
                  have hh := s_area_has A B.o
                  have hhd : A.has B.o = (decide (A.p ≤ B.o) && decide (B.o ≤ A.q)) := rfl
                  simp only [Area.row] at hh
                  have h7 : (decide (A.q < B.p) = true ∧ decide (B.q < A.p) = false ∧ decide (A.p ≤ B.p) = true ∧ decide (B.q ≤ A.q) = false ∧ decide (B.p ≤ A.p) = false ∧ decide (A.q ≤ B.q) = true) ∨
                      (decide (A.q < B.p) = false ∧ decide (B.q < A.p) = true ∧ decide (A.p ≤ B.p) = false ∧ decide (B.q ≤ A.q) = true ∧ decide (B.p ≤ A.p) = true ∧ decide (A.q ≤ B.q) = false) ∨
                      (decide (A.q < B.p) = false ∧ decide (B.q < A.p) = false ∧ decide (A.p ≤ B.p) = true ∧ decide (B.q ≤ A.q) = true ∧ True ∧ True) ∨
                      (decide (A.q < B.p) = false ∧ decide (B.q < A.p) = false ∧ decide (A.p ≤ B.p) = true ∧ decide (B.q ≤ A.q) = false ∧ decide (B.p ≤ A.p) = true ∧ decide (A.q ≤ B.q) = true) ∨
                      (decide (A.q < B.p) = false ∧ decide (B.q < A.p) = false ∧ decide (A.p ≤ B.p) = true ∧ decide (B.q ≤ A.q) = false ∧ decide (B.p ≤ A.p) = false ∧ True) ∨
                      (decide (A.q < B.p) = false ∧ decide (B.q < A.p) = false ∧ decide (A.p ≤ B.p) = false ∧ True ∧ decide (B.p ≤ A.p) = true ∧ decide (A.q ≤ B.q) = true) ∨
                      (decide (A.q < B.p) = false ∧ decide (B.q < A.p) = false ∧ decide (A.p ≤ B.p) = false ∧ True ∧ decide (B.p ≤ A.p) = true ∧ decide (A.q ≤ B.q) = false) := by
                    simp only [decide_eq_true_eq, decide_eq_false_iff_not, and_true, true_and]
                    omega
                  have hrp : refBad A B = ((!(decide (A.q < B.p) || decide (B.q < A.p)) && !(decide (A.p ≤ B.p) && decide (B.q ≤ A.q) || decide (B.p ≤ A.p) && decide (A.q ≤ B.q))) || (A.has B.o && decide (A.q < B.q))) := rfl
                  rcases h7 with ⟨c1, c2, c3, c4, c5, c6⟩ | ⟨c1, c2, c3, c4, c5, c6⟩ | ⟨c1, c2, c3, c4, c5, c6⟩ | ⟨c1, c2, c3, c4, c5, c6⟩ | ⟨c1, c2, c3, c4, c5, c6⟩ | ⟨c1, c2, c3, c4, c5, c6⟩ | ⟨c1, c2, c3, c4, c5, c6⟩
                  all_goals
                    simp only [EV, EX, hP, reduceIte, Nat.reduceEqDiff, Nat.reduceAdd, Nat.reduceSub, binA, IN, DR, DX, Nat.reduceMul, keysU, MX, buildA, fillA, faddrA, load_ptr, load_fp, rowOf_eq, packA, TK.isAgg, cellsOf, cellD, boxA, allocA, storeA, putCells, Nat.reduceLeDiff, extA, iaddr_fz, elSize_eq ty111 ty114, areaRows_length, hb, hbk, hri, hrk, Area.row, ty114, ty3, c1, c2, pickA, drF_eq]
                    refine ⟨by kernel_rfl, ?_⟩
                    simp only [EV, EX, hP, reduceIte, Nat.reduceEqDiff, Nat.reduceAdd, Nat.reduceSub, binA, IN, DR, DX, Nat.reduceMul, keysU, MX, buildA, fillA, faddrA, load_ptr, load_fp, rowOf_eq, packA, TK.isAgg, cellsOf, cellD, boxA, allocA, storeA, putCells, Nat.reduceLeDiff, extA, iaddr_fz, elSize_eq ty111 ty114, areaRows_length, hb, hbk, hri, hrk, Area.row, ty114, ty3, c3, c4, c5, c6, pickA, drF_eq]
                    refine ⟨by kernel_rfl, ?_⟩
                    simp only [EV, EX, hP, reduceIte, Nat.reduceEqDiff, Nat.reduceAdd, Nat.reduceSub, binA, IN, DR, DX, Nat.reduceMul, keysU, MX, buildA, fillA, faddrA, load_ptr, load_fp, rowOf_eq, packA, TK.isAgg, cellsOf, cellD, boxA, allocA, storeA, putCells, Nat.reduceLeDiff, extA, iaddr_fz, elSize_eq ty111 ty114, areaRows_length, hb, hbk, hri, hrk, Area.row, ty114, ty3, unA, pickA, Bool.not_true, Bool.not_false, drF_eq]
                  all_goals first
                    | (refine ⟨by kernel_rfl, ?_⟩
                       try simp only [EV, EX, hP, reduceIte, Nat.reduceEqDiff, Nat.reduceAdd, Nat.reduceSub, binA, IN]
                       refine hno _ (hnk ?_) rfl
                       rw [hrp]
                       simp only [c1, c2, c3, c4, c5, c6, Bool.not_true, Bool.not_false, Bool.and_true, Bool.true_and, Bool.and_false, Bool.false_and, Bool.or_false, Bool.false_or, Bool.or_true, Bool.true_or])
                    | skip
                  all_goals
                      (refine callD_pure hP hh rfl rfl ?_
                       cases hAB : A.has B.o with
                       | false =>
                         simp only [EV, EX, hP, reduceIte, Nat.reduceEqDiff, Nat.reduceAdd, Nat.reduceSub, binA, IN, DR, DX, Nat.reduceMul, keysU, MX, buildA, fillA, faddrA, load_ptr, load_fp, rowOf_eq, packA, TK.isAgg, cellsOf, cellD, boxA, allocA, storeA, putCells, Nat.reduceLeDiff, extA, pickA, drF_eq]
                         refine ⟨by kernel_rfl, ?_⟩
                         simp only [EV, EX, hP, reduceIte, Nat.reduceEqDiff, Nat.reduceAdd, Nat.reduceSub, binA, IN, w3]
                         refine hnx _ ?_ rfl rfl rfl rfl
                         rw [← hrab, hrp]
                         simp only [c1, c2, c3, c4, c5, c6, hAB, Bool.not_true, Bool.not_false, Bool.and_true, Bool.true_and, Bool.and_false, Bool.false_and, Bool.or_false, Bool.false_or, Bool.or_true, Bool.true_or]
                       | true =>
                         cases c7 : decide (A.q < B.q) with
                         | false =>
                           simp only [EV, EX, hP, reduceIte, Nat.reduceEqDiff, Nat.reduceAdd, Nat.reduceSub, binA, IN, DR, DX, Nat.reduceMul, keysU, MX, buildA, fillA, faddrA, load_ptr, load_fp, rowOf_eq, packA, TK.isAgg, cellsOf, cellD, boxA, allocA, storeA, putCells, Nat.reduceLeDiff, extA, iaddr_fz, elSize_eq ty111 ty114, areaRows_length, hb, hbk, hri, hrk, Area.row, ty114, ty3, c7, pickA, drF_eq]
                           refine ⟨by kernel_rfl, ?_⟩
                           simp only [EV, EX, hP, reduceIte, Nat.reduceEqDiff, Nat.reduceAdd, Nat.reduceSub, binA, IN, w3]
                           refine hnx _ ?_ rfl rfl rfl rfl
                           rw [← hrab, hrp]
                           simp only [c1, c2, c3, c4, c5, c6, c7, hAB, Bool.not_true, Bool.not_false, Bool.and_true, Bool.true_and, Bool.and_false, Bool.false_and, Bool.or_false, Bool.false_or, Bool.or_true, Bool.true_or]
                         | true =>
                           simp only [EV, EX, hP, reduceIte, Nat.reduceEqDiff, Nat.reduceAdd, Nat.reduceSub, binA, IN, DR, DX, Nat.reduceMul, keysU, MX, buildA, fillA, faddrA, load_ptr, load_fp, rowOf_eq, packA, TK.isAgg, cellsOf, cellD, boxA, allocA, storeA, putCells, Nat.reduceLeDiff, extA, iaddr_fz, elSize_eq ty111 ty114, areaRows_length, hb, hbk, hri, hrk, Area.row, ty114, ty3, c7, pickA, drF_eq]
                           refine ⟨by kernel_rfl, ?_⟩
                           try simp only [EV, EX, hP, reduceIte, Nat.reduceEqDiff, Nat.reduceAdd, Nat.reduceSub, binA, IN]
                           refine hno _ (hnk ?_) rfl
                           rw [hrp]
                           simp only [c7, hAB, Bool.and_true, Bool.true_and, Bool.or_true])
              · have hk2 : k = (areasOf l).length := by omega
                subst hk2
                rw [List.take_length] at hall2
                simp only [EV, EX, hP, reduceIte, Nat.reduceEqDiff, Nat.reduceAdd, Nat.reduceSub, binA, IN, w2]
                refine hN' _ (i + 1) ⟨hi2, hti ?_⟩ (by omega) (Sub.pl 0 hN (Nat.zero_le _) (Nat.zero_le _) ?_)
                · rw [hall2, Bool.and_true, decide_eq_true_eq]; omega
                · simp only [plT, EV, EX, hP, reduceIte, Nat.reduceEqDiff, Nat.reduceAdd, Nat.reduceSub, plain, instRows_plain, areaRows_plain, and_true, true_and]
        · have hi2 : i = (areasOf l).length := by omega
          subst hi2
          rw [List.take_length] at hall1
          have hn1 : ((areasOf l).all fun p => decide (p.q < (l.length : Int) - 1) && (areasOf l).all fun q => !pairBad p q) = true := by
            rw [List.all_eq_true]
            intro p hp
            have h1 := List.all_eq_true.1 hall1 p hp
            rw [Bool.and_eq_true] at h1
            rw [h1.1, Bool.true_and, List.all_eq_true]
            intro q hq
            have h2 := List.all_eq_true.1 hall1 q hq
            rw [Bool.and_eq_true] at h2
            exact List.all_eq_true.1 h2.2 p hp
          simp only [EV, EX, hP, reduceIte, Nat.reduceEqDiff, Nat.reduceAdd, Nat.reduceSub, binA, IN]
          refine callW_pure hP (s_rPairs l hl hx) (by simp [plainL, plain, instRows_plain]) (pairsD_plain _) ?_
          rw [same_AB hps]
          cases hp : pairsOf l (sameB l) with
          | none =>
            simp only [EV, EX, hP, reduceIte, Nat.reduceEqDiff, Nat.reduceAdd, Nat.reduceSub, binA, IN, pairsD, extA, List.getElem?_cons_zero, List.getElem?_cons_succ, unA, Bool.not_false]
            exact hno _ (shapeMay_no fun h => by obtain ⟨ps, h1, _⟩ := h.2.2.2.2; rw [hp] at h1; cases h1) rfl
          | some ps =>
            have hpl := (pairs_at hp).1
            simp only [EV, EX, hP, reduceIte, Nat.reduceEqDiff, Nat.reduceAdd, Nat.reduceSub, binA, IN, pairsD, extA, List.getElem?_cons_zero, List.getElem?_cons_succ, unA, Bool.not_true]
            refine LoopW.by (fun i => ⟨[(11, some (.int .i64 (i : Nat))), (9, some (.fz 1 (intRows ps))), (4, some (.fz 4 (areaRows (areasOf l)))), (0, some (.fz 4 (instRows l)))], [], 0⟩) (fun i => i ≤ l.length ∧ (List.range i).all (fun i => decide (cntB (areasOf l) i ≤ 2) && markOk l ps i) = true) (fun i => l.length - i) 0 ⟨Nat.zero_le _, rfl⟩ ?_ ?_
            · refine Sub.pl 0 hN (Nat.zero_le _) (Nat.zero_le _) ?_
              simp only [plT, EV, EX, hP, reduceIte, Nat.reduceEqDiff, Nat.reduceAdd, Nat.reduceSub, plain, instRows_plain, areaRows_plain, intRows_plain, and_true, true_and]
              first | rfl | exact ⟨rfl, rfl⟩
            · rintro i ⟨hi, hall3⟩ N hN'
              simp only [EV, EX, hP, reduceIte, Nat.reduceEqDiff, Nat.reduceAdd, Nat.reduceSub, binA, IN, len_fz ty34, instRows_length]
              refine condS_d (fun h => ?_) (fun h => ?_)
              · have hi2 : i < l.length := by omega
                have hb : (0 : Int) ≤ i ∧ (i : Int) < l.length := by omega
                have w2 : IntKind.i64.wrap ((i : Int) + 1) = ((i + 1 : Nat) : Int) := by rw [wrap_i64 (by omega) (by omega)]; omega
                simp only [EV, EX, hP, reduceIte, Nat.reduceEqDiff, Nat.reduceAdd, Nat.reduceSub, binA, IN]
                refine LoopW.by (fun k => ⟨[(14, some (.int .i64 (k : Nat))), (13, some (.int .i64 (cntH ((areasOf l).take k) i : Nat))), (12, some (.int .i64 (cntB ((areasOf l).take k) i))), (11, some (.int .i64 (i : Nat))), (9, some (.fz 1 (intRows ps))), (4, some (.fz 4 (areaRows (areasOf l)))), (0, some (.fz 4 (instRows l)))], [], 0⟩) (fun k => k ≤ (areasOf l).length) (fun k => (areasOf l).length - k) 0 (Nat.zero_le _) ?_ ?_
                · refine Sub.pl 0 hN (Nat.zero_le _) (Nat.zero_le _) ?_
                  simp only [plT, EV, EX, hP, reduceIte, Nat.reduceEqDiff, Nat.reduceAdd, Nat.reduceSub, plain, instRows_plain, areaRows_plain, intRows_plain, and_true, true_and, List.take_zero, cntH, cntB, List.filter_nil, List.length_nil]
                  first | rfl | exact ⟨rfl, rfl⟩ | exact ⟨rfl, rfl, rfl⟩
                · intro k hk N2 hN2
                  have hcb := cntB_le ((areasOf l).take k) i
                  have hch := cntH_le ((areasOf l).take k) i
                  rw [List.length_take] at hcb hch
                  simp only [EV, EX, hP, reduceIte, Nat.reduceEqDiff, Nat.reduceAdd, Nat.reduceSub, binA, IN, len_fz ty111, areaRows_length]
                  refine condS_d (fun h => ?_) (fun h => ?_)
                  · have hk2 : k < (areasOf l).length := by omega
                    have hbk : (0 : Int) ≤ k ∧ (k : Int) < (areasOf l).length := by omega
                    have w3 : IntKind.i64.wrap ((k : Int) + 1) = ((k + 1 : Nat) : Int) := by rw [wrap_i64 (by omega) (by omega)]; omega
                    have w4 : IntKind.i64.wrap (((cntH ((areasOf l).take k) i : Nat) : Int) + 1) = ((cntH ((areasOf l).take k) i + 1 : Nat) : Int) := by rw [wrap_i64 (by omega) (by omega)]; omega
                    have w5 : IntKind.i64.wrap (cntB ((areasOf l).take k) i + 1) = cntB ((areasOf l).take k) i + 1 := wrap_i64 (by omega) (by omega)
                    have hrk : (areaRows (areasOf l)).getD k [] = (areasOf l)[k].row := areaRows_getD hk2
                    have hh := s_area_has (areasOf l)[k] i
                    have nH := cntH_take hk2 i
                    have nB := cntB_take hk2 i
                    have hnx : ∀ S : St, S.get 14 = some (.int .i64 ((k + 1 : Nat) : Int)) → S.get 13 = some (.int .i64 (cntH ((areasOf l).take (k + 1)) i : Nat)) → S.get 12 = some (.int .i64 (cntB ((areasOf l).take (k + 1)) i)) → S.get 11 = some (.int .i64 (i : Nat)) → S.get 9 = some (.fz 1 (intRows ps)) → S.get 4 = some (.fz 4 (areaRows (areasOf l))) → S.get 0 = some (.fz 4 (instRows l)) → N2 S := by
                      intro S g1 g2 g3 g4 g5 g6 g7
                      refine hN2 _ (k + 1) hk2 (by omega) (Sub.pl 0 hN (Nat.zero_le _) (Nat.zero_le _) ?_)
                      simp only [plT, EV, EX, hP, reduceIte, Nat.reduceEqDiff, Nat.reduceAdd, Nat.reduceSub, g1, g2, g3, g4, g5, g6, g7, plain, instRows_plain, areaRows_plain, intRows_plain, and_true, true_and]
                    generalize (areasOf l)[k] = B at *
                    simp only [Area.row] at hh
                    simp only [EV, EX, hP, reduceIte, Nat.reduceEqDiff, Nat.reduceAdd, Nat.reduceSub, binA, IN, MX, buildA, fillA, faddrA, load_ptr, load_fp, rowOf_eq, packA, TK.isAgg, cellsOf, cellD, boxA, allocA, storeA, putCells, Nat.reduceLeDiff, extA, iaddr_fz, elSize_eq ty111 ty114, areaRows_length, hbk, hrk, Area.row, ty114]
                    refine callW_pure hP hh rfl rfl ?_
                    cases hB : B.has i with
                    | false =>
                      simp only [EV, EX, hP, reduceIte, Nat.reduceEqDiff, Nat.reduceAdd, Nat.reduceSub, binA, IN, w3]
                      exact hnx _ rfl (by rw [nH, hB]; rfl) (by rw [nB, hB]; simp; rfl) rfl rfl rfl rfl
                    | true =>
                      simp only [EV, EX, hP, reduceIte, Nat.reduceEqDiff, Nat.reduceAdd, Nat.reduceSub, binA, IN, MX, buildA, fillA, faddrA, load_ptr, load_fp, rowOf_eq, packA, TK.isAgg, cellsOf, cellD, boxA, allocA, storeA, putCells, Nat.reduceLeDiff, extA, iaddr_fz, elSize_eq ty111 ty114, areaRows_length, hbk, hrk, Area.row, ty114, ty4, w4]
                      cases hC : B.body with
                      | false =>
                        simp only [EV, EX, hP, reduceIte, Nat.reduceEqDiff, Nat.reduceAdd, Nat.reduceSub, binA, IN, w3]
                        exact hnx _ rfl (by rw [nH, hB]; rfl) (by rw [nB, hC]; simp; rfl) rfl rfl rfl rfl
                      | true =>
                        simp only [EV, EX, hP, reduceIte, Nat.reduceEqDiff, Nat.reduceAdd, Nat.reduceSub, binA, IN, w3, w5]
                        exact hnx _ rfl (by rw [nH, hB]; rfl) (by rw [nB, hC, hB]; simp; rfl) rfl rfl rfl rfl
                  · have hk2 : k = (areasOf l).length := by omega
                    subst hk2
                    rw [List.take_length] at *
                    have hnx : ∀ S : St, cntB (areasOf l) i ≤ 2 → markOk l ps i = true → S.get 11 = some (.int .i64 ((i + 1 : Nat) : Int)) → S.get 9 = some (.fz 1 (intRows ps)) → S.get 4 = some (.fz 4 (areaRows (areasOf l))) → S.get 0 = some (.fz 4 (instRows l)) → N S := by
                      intro S h1 h2 g1 g2 g3 g4
                      refine hN' _ (i + 1) ⟨hi2, ?_⟩ (by omega) (Sub.pl 0 hN (Nat.zero_le _) (Nat.zero_le _) ?_)
                      · rw [List.range_succ, List.all_append, hall3]; simp [h1, h2]
                      · simp only [plT, EV, EX, hP, reduceIte, Nat.reduceEqDiff, Nat.reduceAdd, Nat.reduceSub, g1, g2, g3, g4, plain, instRows_plain, areaRows_plain, intRows_plain, and_true, true_and]
                    have hmk : markOk l ps i = false → shapeMay l = false := fun hf => shapeMay_no fun h => by
                      obtain ⟨ps', h1, h2⟩ := h.2.2.2.2
                      rw [hp] at h1; cases h1
                      rw [List.all_eq_true.1 h2 i (List.mem_range.2 hi2)] at hf; cases hf
                    by_cases hc2 : 2 < cntB (areasOf l) i
                    · simp only [hc2, decide_true, EV, EX, hP, reduceIte, Nat.reduceEqDiff, Nat.reduceAdd, Nat.reduceSub, binA, IN, pickA]
                      refine hno _ (shapeMay_no fun h => ?_) rfl
                      have h3 := h.2.2.2.1
                      unfold nestOk at h3
                      rw [Bool.and_eq_true] at h3
                      have := List.all_eq_true.1 h3.2 i (List.mem_range.2 hi2)
                      rw [decide_eq_true_eq] at this
                      omega
                    · by_cases h11 : l[i].op = 11
                      · by_cases hch : 0 < cntH (areasOf l) i
                        · have hch' : (0 : Int) < ((cntH (areasOf l) i : Nat) : Int) := by omega
                          simp only [hc2, h11, hch', decide_true, decide_false, EV, EX, hP, reduceIte, Nat.reduceEqDiff, Nat.reduceAdd, Nat.reduceSub, binA, IN, MX, buildA, fillA, faddrA, load_ptr, load_fp, rowOf_eq, packA, TK.isAgg, cellsOf, cellD, boxA, allocA, storeA, putCells, Nat.reduceLeDiff, extA, pickA, iaddr_fz, elSize_eq ty34 ty60, instRows_length, hb, instRows_getD hi2, Inst.row, ty60, ty3]
                          refine hno _ (hmk ?_) rfl
                          have : ¬ inB l i = bits0 := by rw [inB_none hps, ← cntH_zero]; omega
                          simp [markOk, nth_get hi2, h11, this]
                        · have hch' : ¬ (0 : Int) < ((cntH (areasOf l) i : Nat) : Int) := by omega
                          have h0 : inB l i = bits0 := by rw [inB_none hps, ← cntH_zero]; omega
                          simp only [hc2, h11, hch', decide_true, decide_false, EV, EX, hP, reduceIte, Nat.reduceEqDiff, Nat.reduceAdd, Nat.reduceSub, binA, IN, MX, buildA, fillA, faddrA, load_ptr, load_fp, rowOf_eq, packA, TK.isAgg, cellsOf, cellD, boxA, allocA, storeA, putCells, Nat.reduceLeDiff, extA, pickA, iaddr_fz, elSize_eq ty34 ty60, instRows_length, hb, instRows_getD hi2, Inst.row, ty60, ty3]
                          refine callW_pure hP (s_held l hl ps hpl i) (by simp [plainL, plain, instRows_plain, intRows_plain]) rfl ?_
                          have hha := held_any hp hi2
                          by_cases hhe : 0 < heldN l ps i l.length
                          · have hhe' : (0 : Int) < ((heldN l ps i l.length : Nat) : Int) := by omega
                            simp only [hhe', decide_true, EV, EX, hP, reduceIte, Nat.reduceEqDiff, Nat.reduceAdd, Nat.reduceSub, binA, IN, pickA]
                            refine hno _ (hmk ?_) rfl
                            unfold markOk
                            rw [nth_get hi2, hha.1 hhe]; simp [h11]
                          · have hhe' : ¬ (0 : Int) < ((heldN l ps i l.length : Nat) : Int) := by omega
                            simp only [hhe', decide_false, EV, EX, hP, reduceIte, Nat.reduceEqDiff, Nat.reduceAdd, Nat.reduceSub, binA, IN, pickA, w2]
                            refine hnx _ (by omega) ?_ rfl rfl rfl rfl
                            have : (ps.take i).any (fun e => decide ((i : Int) < e)) = false := by
                              rw [Bool.eq_false_iff]; exact fun h => hhe (hha.2 h)
                            unfold markOk
                            rw [this]; simp [h0]
                      · simp only [hc2, h11, decide_true, decide_false, EV, EX, hP, reduceIte, Nat.reduceEqDiff, Nat.reduceAdd, Nat.reduceSub, binA, IN, MX, buildA, fillA, faddrA, load_ptr, load_fp, rowOf_eq, packA, TK.isAgg, cellsOf, cellD, boxA, allocA, storeA, putCells, Nat.reduceLeDiff, extA, pickA, iaddr_fz, elSize_eq ty34 ty60, instRows_length, hb, instRows_getD hi2, Inst.row, ty60, ty3, w2]
                        exact hnx _ (by omega) (by simp [markOk, nth_get hi2, h11]) rfl rfl rfl rfl
              · have hi2 : i = l.length := by omega
                subst hi2
                simp only [EV, EX, hP, reduceIte, Nat.reduceEqDiff, Nat.reduceAdd, Nat.reduceSub, binA, IN]
                refine hQ _ <| retQ_pure _ rfl rfl ⟨?_, rfl⟩
                have hmay : l.all Inst.may = true := List.all_eq_true.2 hx
                have hne : nestOk l = true := by
                  unfold nestOk
                  rw [hn1, Bool.true_and, List.all_eq_true]
                  intro i hi
                  have := List.all_eq_true.1 hall3 i hi
                  rw [Bool.and_eq_true] at this
                  exact this.1
                have hmo : (List.range l.length).all (markOk l ps) = true := by
                  rw [List.all_eq_true]
                  intro i hi
                  have := List.all_eq_true.1 hall3 i hi
                  rw [Bool.and_eq_true] at this
                  exact this.2
                have : shapeMay l = true := by
                  unfold shapeMay
                  rw [hp]
                  simp [hl1, hl, hmay, hends, hne, hmo]
                rw [this]; rfl
end Go.Fv
/- CONTRACTS: the document's Cost. -/
namespace Go.Fv
open Go.Proofs

theorem btw_succ {ns : List Int} {a b : Nat} (h : b < ns.length) (ha : a ≤ b) : ((ns.take (b + 1)).drop a).sum = ((ns.take b).drop a).sum + ns[b] := by
  rw [List.take_succ_eq_append_getElem h, List.drop_append_of_le_length (by simp; omega), List.sum_append]; simp

set_option maxRecDepth 100000 in
set_option maxHeartbeats 4000000 in
theorem s_rCost (l : List Inst) (hl : l.length ≤ maxL) : Pure Try.prog 44 [.fz 4 (instRows l)] (costD (costP l)) := by
  refine Spec.walk ok44 fun C Q hP hN hQ => ?_
  unfold c44
  simp only [EV, EX, hP, reduceIte, Nat.reduceEqDiff, Nat.reduceAdd, Nat.reduceSub, binA, IN, MX, buildA, fillA, faddrA, load_ptr, load_fp, rowOf_eq, packA, TK.isAgg, cellsOf, cellD, boxA, allocA, storeA, putCells, Nat.reduceLeDiff, extA, ty75]
  refine callW_pure hP (s_rMay l hl) (by simp [plainL, plain, instRows_plain]) rfl ?_
  simp only [EV, EX, hP, reduceIte, Nat.reduceEqDiff, Nat.reduceAdd, Nat.reduceSub, binA, IN, unA]
  refine condS_i (fun h => ?_) (fun h => ?_)
  · have h : shapeMay l = false := by simpa using h
    simp only [EV, EX, hP, reduceIte, Nat.reduceEqDiff, Nat.reduceAdd, Nat.reduceSub, binA, IN, MX, buildA, fillA, faddrA, load_ptr, load_fp, rowOf_eq, packA, TK.isAgg, cellsOf, cellD, boxA, allocA, storeA, putCells, Nat.reduceLeDiff, extA, ty75, ty2, fillA, Option.map_some, cells_agg]
    have hc : costP l = none := by simp [costP, h]
    rw [hc] at hQ
    refine hQ _ ⟨⟨0, [], [], []⟩, [.agg [.int .i64 0, .int .i64 0, .nilsl], .bool false], [.agg [.int .i64 0, .int .i64 0, .fz 2 []], .bool false], [], by simp only [resD, EV, EX, hP, reduceIte, Nat.reduceEqDiff, Nat.reduceAdd, Nat.reduceSub, MX, buildA, fillA, faddrA, load_ptr, load_fp, rowOf_eq, packA, TK.isAgg, cellsOf, cellD, boxA, allocA, storeA, putCells, Nat.reduceLeDiff, extA, ty75]; rfl, Nat.le_refl _, rfl,
      .cons _ _ _ _ (.agg _ _ rfl ?_) (.cons _ _ _ _ (.same _ rfl) .nil), trivial, rfl, rfl⟩
    intro j x y hx hy
    match j with
    | 0 => cases hx; cases hy; exact .same _ rfl
    | 1 => cases hx; cases hy; exact .same _ rfl
    | 2 => cases hx; cases hy; exact .nf 2
    | j + 3 => simp at hx
  · have h : shapeMay l = true := by simpa using h
    obtain ⟨hlen, hx, hend, hnest, ps, hps, hmark⟩ := shapeMay_inv h
    have htl := costTimes_length l
    obtain ⟨hpl, hpk⟩ := pairs_at hps
    have hspec : costP l = some ⟨satSum (costTimes l), (costUpto l (costTimes l) ps l.length).1, (costUpto l (costTimes l) ps l.length).2.2⟩ := by simp [costP, h, hps]
    rw [hspec] at hQ
    have hpr := s_rPairs l hlen.2 hx
    rw [same_AB (Nat.le_trans (areasOf_length l) hlen.2), hps] at hpr
    have htm := s_rTms l hlen.2 hx hnest
    obtain ⟨ets, hb4⟩ := costTimes_exact hx hnest
    rw [show timesR l = costTimes l from ets.symm] at htm
    clear ets
    simp only [EV, EX, hP, reduceIte, Nat.reduceEqDiff, Nat.reduceAdd, Nat.reduceSub, binA, IN, MX, buildA, fillA, faddrA, load_ptr, load_fp, rowOf_eq, packA, TK.isAgg, cellsOf, cellD, boxA, allocA, storeA, putCells, Nat.reduceLeDiff, extA, ty75, ty2, fillA, Option.map_some, cells_agg]
    refine callW_pure hP htm (by simp [plainL, plain, instRows_plain]) (by simp only [plain, intRows_plain]) ?_
    have hpos : ∀ n ∈ costTimes l, 1 ≤ n := fun n hn => (hb4 n hn).1
    have h0 : ∀ n ∈ costTimes l, 0 ≤ n := fun n hn => by have := hpos n hn; omega
    have hle := sum_le_len (m := 400) fun n hn => (hb4 n hn).2
    rw [htl] at hle
    generalize costTimes l = ts at *
    have hsum : ∀ a b, 0 ≤ ((ts.take b).drop a).sum ∧ ((ts.take b).drop a).sum ≤ 9600 := fun a b => by
      have := sum_take_drop h0 a b; omega
    have hbt : ∀ a b, between ts a b = ((ts.take b).drop a).sum := fun a b =>
      satSum_sum (fun n hn => h0 n (List.mem_of_mem_take (List.mem_of_mem_drop hn))) (by have := hsum a b; omega)
    have hall : satSum ts = ts.sum := satSum_sum h0 (by omega)
    simp only [EV, EX, hP, reduceIte, Nat.reduceEqDiff, Nat.reduceAdd, Nat.reduceSub, binA, IN, MX, buildA, fillA, faddrA, load_ptr, load_fp, rowOf_eq, packA, TK.isAgg, cellsOf, cellD, boxA, allocA, storeA, putCells, Nat.reduceLeDiff, extA]
    refine callW_pure hP hpr (by simp [plainL, plain, instRows_plain]) (pairsD_plain _) ?_
    simp only [EV, EX, hP, reduceIte, Nat.reduceEqDiff, Nat.reduceAdd, Nat.reduceSub, binA, IN, MX, buildA, fillA, faddrA, load_ptr, load_fp, rowOf_eq, packA, TK.isAgg, cellsOf, cellD, boxA, allocA, storeA, putCells, Nat.reduceLeDiff, extA, pairsD, extA, List.getElem?_cons_zero, List.getElem?_cons_succ]
    have hcell : ∀ (M : Nm) (H : Nat → Option Blk) (a b : Int) (x y : DV), Tl M H x y → TlB M H (.rows 3 [[.int .i64 a, .int .i64 b, x]]) (.rows 3 [[.int .i64 a, .int .i64 b, y]]) := by
      intro M H a b u v huv
      refine .rows 3 _ _ rfl ?_ ?_
      · intro i x y hx hy
        match i with
        | 0 => cases hx; cases hy; rfl
        | i + 1 => simp at hx
      · intro i j r s x y hr hs hx hy
        match i with
        | 0 =>
          cases hr; cases hs
          match j with
          | 0 => cases hx; cases hy; exact .same _ rfl
          | 1 => cases hx; cases hy; exact .same _ rfl
          | 2 => cases hx; cases hy; exact huv
          | j + 3 => simp at hx
        | i + 1 => simp at hr
    have hq : ∀ q, ∀ n, C.N0 n → n < q := fun q n hn => absurd (hN n hn) (by omega)
    refine LoopW.by (fun i => ⟨[(9, some (.int .i64 (i : Nat))), (8, some (.int .i64 ((ts.take i).drop (costUpto l ts ps i).2.1).sum)), (6, some (.fz 1 (intRows ps))), (5, some (.fz 1 (intRows ts))), (4, some (.ptr 1 0 0)), (2, some (.ptr 0 0 0)), (0, some (.fz 4 (instRows l)))],
      [(0, some (.rows 3 [[.int .i64 0, .int .i64 0, .nilsl]])), (1, some (.rows 3 [[.int .i64 (ts.take i).sum, .int .i64 (costUpto l ts ps i).1, .sl 2 2 0 (costUpto l ts ps i).2.2.length]])), (2, some (.rows 2 (spanRows (costUpto l ts ps i).2.2)))], 48⟩) (fun i => i ≤ l.length) (fun i => l.length - i) 0 (Nat.zero_le _) ?_ ?_
    · refine Sub.tell ⟨1, [(96, 1)], [(2, 2)], []⟩ (hq 1) rfl ?_ ?_
      · exact ⟨⟨_, rfl, .same _ rfl⟩, ⟨_, rfl, .same _ rfl⟩, ⟨_, rfl, .same _ (by simp only [plain, intRows_plain])⟩, ⟨_, rfl, .same _ (by simp only [plain, intRows_plain])⟩, ⟨_, rfl, .ptr 96 1 0 0 rfl⟩, ⟨_, rfl, .ptr 0 0 0 0 rfl⟩, ⟨_, rfl, .same _ (by simp only [plain, instRows_plain])⟩, trivial⟩
      · exact ⟨.inl ⟨0, _, rfl, by simp, rfl, hcell _ _ _ _ _ _ (.same _ rfl)⟩, .inl ⟨96, _, rfl, by simp, rfl, hcell _ _ _ _ _ _ (.own 2 2 rfl)⟩, .inr ⟨2, rfl, rfl⟩, trivial⟩
    · intro i hi N hN'
      simp only [EV, EX, hP, reduceIte, Nat.reduceEqDiff, Nat.reduceAdd, Nat.reduceSub, binA, IN, len_fz ty34, instRows_length]
      refine condS_d (fun h2 => ?_) (fun h2 => ?_)
      · have hi2 : i < l.length := by omega
        have hit : i < ts.length := by omega
        have hb : (0 : Int) ≤ i ∧ (i : Int) < l.length := by omega
        have hbt' : (0 : Int) ≤ i ∧ (i : Int) < ts.length := by omega
        have w1 : IntKind.i64.wrap ((i : Int) + 1) = ((i + 1 : Nat) : Int) := by rw [wrap_i64 (by omega) (by omega)]; omega
        have hfr := costUpto_from (l := l) (ts := ts) (ps := ps) i
        have hsp := costUpto_spans (l := l) (ts := ts) (ps := ps) i
        have hs : costUpto l ts ps (i + 1) = if (nth l i).op = 11 ∨ (nth l i).op = 0 then ((max (costUpto l ts ps i).1 (between ts (costUpto l ts ps i).2.1 (i + 1)) : Int), i + 1, (costUpto l ts ps i).2.2)
          else if (nth l i).op = 9 then ((costUpto l ts ps i).1, (costUpto l ts ps i).2.1, (costUpto l ts ps i).2.2 ++ [((nth l i).a, (between ts (i + 1) ((ps.getD i 0).toNat + 1)).tdiv (ts.getD i 0))]) else costUpto l ts ps i := rfl
        rw [nth_get hi2, hbt, hbt] at hs
        obtain ⟨u, hu⟩ : ∃ u, u = costUpto l ts ps i := ⟨_, rfl⟩
        rw [← hu] at hfr hsp hs ⊢
        have hs1 := hsum 0 i
        have hs2 := hsum 0 (i + 1)
        have e1 := btw_succ (a := 0) hit (Nat.zero_le _)
        have hs3 := hsum u.2.1 i
        have hs4 := hsum u.2.1 (i + 1)
        have e2 := btw_succ hit hfr
        rw [List.drop_zero] at hs1 hs2
        rw [List.drop_zero, List.drop_zero] at e1
        have w2 : IntKind.i64.wrap ((ts.take i).sum + ts[i]) = (ts.take (i + 1)).sum := by rw [← e1]; exact wrap_i64 (by omega) (by omega)
        have w3 : IntKind.i64.wrap (((ts.take i).drop u.2.1).sum + ts[i]) = ((ts.take (i + 1)).drop u.2.1).sum := by rw [← e2]; exact wrap_i64 (by omega) (by omega)
        have hfin : ∀ (S : St) (c : Int × Nat × List (Int × Int)) (nm : Nat), costUpto l ts ps (i + 1) = c → S.get 9 = some (.int .i64 ((i + 1 : Nat) : Int)) → S.get 8 = some (.int .i64 ((ts.take (i + 1)).drop c.2.1).sum) → S.get 6 = some (.fz 1 (intRows ps)) → S.get 5 = some (.fz 1 (intRows ts)) → S.get 4 = some (.ptr 1 0 0) → S.get 2 = some (.ptr 0 0 0) → S.get 0 = some (.fz 4 (instRows l)) →
            S.blk 0 = some (.rows 3 [[.int .i64 0, .int .i64 0, .nilsl]]) → S.blk 1 = some (.rows 3 [[.int .i64 (ts.take (i + 1)).sum, .int .i64 c.1, .sl 2 nm 0 c.2.2.length]]) → S.blk nm = some (.rows 2 (spanRows c.2.2)) →
            ∀ M : Nm, (∀ n, C.N0 n → n < M.q) → M.ok S.nx 48 = true → M.Z = [] → M.new 0 = some 0 → M.new 1 = some 1 → M.new nm = some 2 → N S := by
          intro S c nm hc g1 g2 g3 g4 g5 g6 g7 b0 b1 b2 M m0 m1 m2 m3 m4 m5
          refine hN' _ (i + 1) hi2 (by omega) ?_
          rw [hc]
          refine Sub.tell M m0 m1 ?_ ?_
          · exact ⟨⟨_, g1, .same _ rfl⟩, ⟨_, g2, .same _ rfl⟩, ⟨_, g3, .same _ (by simp only [plain, intRows_plain])⟩, ⟨_, g4, .same _ (by simp only [plain, intRows_plain])⟩, ⟨_, g5, .ptr 1 1 0 0 m4⟩, ⟨_, g6, .ptr 0 0 0 0 m3⟩, ⟨_, g7, .same _ (by simp only [plain, instRows_plain])⟩, trivial⟩
          · exact ⟨.inl ⟨0, _, m3, by simp [m2], b0, hcell _ _ _ _ _ _ (.same _ rfl)⟩, .inl ⟨1, _, m4, by simp [m2], b1, hcell _ _ _ _ _ _ (.sl 2 nm 2 0 _ m5)⟩, .inl ⟨nm, _, m5, by simp [m2], b2, lowB_same (spanRows_plain _)⟩, trivial⟩
        simp only [EV, EX, hP, reduceIte, Nat.reduceEqDiff, Nat.reduceAdd, Nat.reduceSub, binA, IN, DR, DX, Nat.reduceMul, keysU, MX, buildA, fillA, faddrA, load_ptr, load_fp, rowOf_eq, packA, TK.isAgg, cellsOf, cellD, boxA, allocA, storeA, putCells, Nat.reduceLeDiff, extA, ty75, ty2, iaddr_fz, elSize_eq ty26 ty2, intRows_length, hbt', intRows_getD hit, w2, w3, cells_int, List.length_cons, List.length_nil, drF_eq]
        refine ⟨by kernel_rfl, ?_⟩
        simp only [EV, EX, hP, reduceIte, Nat.reduceEqDiff, Nat.reduceAdd, Nat.reduceSub, binA, IN, MX, buildA, fillA, faddrA, load_ptr, load_fp, rowOf_eq, packA, TK.isAgg, cellsOf, cellD, boxA, allocA, storeA, putCells, Nat.reduceLeDiff, extA, iaddr_fz, elSize_eq ty34 ty60, instRows_length, hb, instRows_getD hi2, Inst.row, ty60, ty3]
        have hcase : (l[i].op = 11 ∨ ¬ l[i].op = 11 ∧ l[i].op = 0) ∨ ¬ l[i].op = 11 ∧ ¬ l[i].op = 0 := by omega
        rcases hcase with hcase | ⟨h11, h0'⟩
        · have hst : costUpto l ts ps (i + 1) = ((max u.1 ((ts.take (i + 1)).drop u.2.1).sum : Int), i + 1, u.2.2) := by rw [hs, if_pos (by omega)]
          have h9 : ¬ l[i].op = 9 := by omega
          have hz : ((ts.take (i + 1)).drop (i + 1)).sum = 0 := by rw [List.drop_eq_nil_of_le (by simp; omega)]; rfl
          have hmx : (if ((ts.take (i + 1)).drop u.2.1).sum > u.1 then ((ts.take (i + 1)).drop u.2.1).sum else u.1) = max u.1 ((ts.take (i + 1)).drop u.2.1).sum := by omega
          rcases hcase with h11 | ⟨h11, h0'⟩
          · have n9 : ¬ (11 : Int) = 9 := by omega
            simp only [h11, decide_true, EV, EX, hP, reduceIte, Nat.reduceEqDiff, Nat.reduceAdd, Nat.reduceSub, binA, IN, MX, buildA, fillA, faddrA, load_ptr, load_fp, rowOf_eq, packA, TK.isAgg, cellsOf, cellD, boxA, allocA, storeA, putCells, Nat.reduceLeDiff, extA, pickA, ty75, ty2, ty60, ty3, maxA, cells_int, List.length_cons, List.length_nil, iaddr_fz, elSize_eq ty34 ty60, instRows_length, hb, instRows_getD hi2, Inst.row, hmx]
            simp only [n9, decide_false, EV, EX, hP, reduceIte, Nat.reduceEqDiff, Nat.reduceAdd, Nat.reduceSub, binA, IN, w1]
            exact hfin _ _ 2 hst rfl (by rw [hz]; rfl) rfl rfl rfl rfl rfl rfl rfl rfl ⟨3, [], [], []⟩ (hq 3) rfl rfl rfl rfl rfl
          · have n9 : ¬ (0 : Int) = 9 := by omega
            have n11 : ¬ (0 : Int) = 11 := by omega
            simp only [h0', n11, decide_true, decide_false, EV, EX, hP, reduceIte, Nat.reduceEqDiff, Nat.reduceAdd, Nat.reduceSub, binA, IN, MX, buildA, fillA, faddrA, load_ptr, load_fp, rowOf_eq, packA, TK.isAgg, cellsOf, cellD, boxA, allocA, storeA, putCells, Nat.reduceLeDiff, extA, pickA, ty75, ty2, ty60, ty3, maxA, cells_int, List.length_cons, List.length_nil, iaddr_fz, elSize_eq ty34 ty60, instRows_length, hb, instRows_getD hi2, Inst.row, hmx]
            simp only [n9, decide_false, EV, EX, hP, reduceIte, Nat.reduceEqDiff, Nat.reduceAdd, Nat.reduceSub, binA, IN, w1]
            exact hfin _ _ 2 hst rfl (by rw [hz]; rfl) rfl rfl rfl rfl rfl rfl rfl rfl ⟨3, [], [], []⟩ (hq 3) rfl rfl rfl rfl rfl
        · by_cases h9 : l[i].op = 9
          · have n11 : ¬ (9 : Int) = 11 := by omega
            have n0 : ¬ (9 : Int) = 0 := by omega
            have hst : costUpto l ts ps (i + 1) = (u.1, u.2.1, u.2.2 ++ [(l[i].a, ((ts.take ((ps.getD i 0).toNat + 1)).drop (i + 1)).sum.tdiv (ts.getD i 0))]) := by rw [hs, if_neg (by omega), if_pos h9]
            obtain ⟨hp1, hp2⟩ := hpk i hi2 (by rw [nth_get hi2]; exact h9)
            have hip : i < ps.length := by omega
            have ep : ps.getD i 0 = ps[i] := by simp [List.getD_eq_getElem?_getD, hip]
            have et : ts.getD i 0 = ts[i] := by simp [List.getD_eq_getElem?_getD, hit]
            rw [ep] at hp1 hp2
            rw [ep, et] at hst
            obtain ⟨p, hp⟩ : ∃ p : Nat, ps[i] = (p : Int) := ⟨ps[i].toNat, by omega⟩
            rw [hp] at hp1 hp2 hst
            rw [Int.toNat_natCast] at hst
            have hbp : (0 : Int) ≤ i ∧ (i : Int) < ps.length := by omega
            have hz : ((ts.take (i + 1)).drop (i + 1)).sum = 0 := by rw [List.drop_eq_nil_of_le (by simp; omega)]; rfl
            simp only [h9, n11, n0, decide_true, decide_false, EV, EX, hP, reduceIte, Nat.reduceEqDiff, Nat.reduceAdd, Nat.reduceSub, binA, IN, MX, buildA, fillA, faddrA, load_ptr, load_fp, rowOf_eq, packA, TK.isAgg, cellsOf, cellD, boxA, allocA, storeA, putCells, Nat.reduceLeDiff, extA, pickA, ty75, ty2, ty60, ty3, maxA, cells_int, List.length_cons, List.length_nil, iaddr_fz, elSize_eq ty34 ty60, instRows_length, hb, instRows_getD hi2, Inst.row, w1]
            refine LoopW.by (fun k => ⟨[(11, some (.int .i64 (k : Nat))), (10, some (.int .i64 ((ts.take k).drop (i + 1)).sum)), (9, some (.int .i64 (i : Nat))), (8, some (.int .i64 ((ts.take (i + 1)).drop u.2.1).sum)), (6, some (.fz 1 (intRows ps))), (5, some (.fz 1 (intRows ts))), (4, some (.ptr 1 0 0)), (2, some (.ptr 0 0 0)), (0, some (.fz 4 (instRows l)))],
              [(0, some (.rows 3 [[.int .i64 0, .int .i64 0, .nilsl]])), (1, some (.rows 3 [[.int .i64 (ts.take (i + 1)).sum, .int .i64 u.1, .sl 2 2 0 u.2.2.length]])), (2, some (.rows 2 (spanRows u.2.2)))], 48⟩) (fun k => i + 1 ≤ k ∧ k ≤ p + 1) (fun k => p + 1 - k) (i + 1) ⟨Nat.le_refl _, by omega⟩ ?_ ?_
            · refine Sub.tell ⟨3, [], [], []⟩ (hq 3) rfl ?_ ?_
              · exact ⟨⟨_, rfl, .same _ rfl⟩, ⟨_, rfl, by rw [hz]; exact .same _ rfl⟩, ⟨_, rfl, .same _ rfl⟩, ⟨_, rfl, .same _ rfl⟩, ⟨_, rfl, .same _ (by simp only [plain, intRows_plain])⟩, ⟨_, rfl, .same _ (by simp only [plain, intRows_plain])⟩, ⟨_, rfl, .ptr 1 1 0 0 rfl⟩, ⟨_, rfl, .ptr 0 0 0 0 rfl⟩, ⟨_, rfl, .same _ (by simp only [plain, instRows_plain])⟩, trivial⟩
              · exact ⟨.inl ⟨0, _, rfl, by simp, rfl, hcell _ _ _ _ _ _ (.same _ rfl)⟩, .inl ⟨1, _, rfl, by simp, rfl, hcell _ _ _ _ _ _ (.sl 2 2 2 0 _ rfl)⟩, .inl ⟨2, _, rfl, by simp, rfl, lowB_same (spanRows_plain _)⟩, trivial⟩
            · rintro k ⟨hk1, hk2⟩ N2 hN2
              simp only [EV, EX, hP, reduceIte, Nat.reduceEqDiff, Nat.reduceAdd, Nat.reduceSub, binA, IN, MX, buildA, fillA, faddrA, load_ptr, load_fp, rowOf_eq, packA, TK.isAgg, cellsOf, cellD, boxA, allocA, storeA, putCells, Nat.reduceLeDiff, extA, iaddr_fz, elSize_eq ty94 ty3, intRows_length, hbp, intRows_getD hip, ty3, hp]
              refine condS_d (fun h3 => ?_) (fun h3 => ?_)
              · have hkt : k < ts.length := by omega
                have hbk : (0 : Int) ≤ k ∧ (k : Int) < ts.length := by omega
                have wk : IntKind.i64.wrap ((k : Int) + 1) = ((k + 1 : Nat) : Int) := by rw [wrap_i64 (by omega) (by omega)]; omega
                have hsk := hsum (i + 1) k
                have hsk2 := hsum (i + 1) (k + 1)
                have ek := btw_succ (a := i + 1) hkt hk1
                have ws : IntKind.i64.wrap (((ts.take k).drop (i + 1)).sum + ts[k]) = ((ts.take (k + 1)).drop (i + 1)).sum := by rw [← ek]; exact wrap_i64 (by omega) (by omega)
                simp only [EV, EX, hP, reduceIte, Nat.reduceEqDiff, Nat.reduceAdd, Nat.reduceSub, binA, IN, MX, buildA, fillA, faddrA, load_ptr, load_fp, rowOf_eq, packA, TK.isAgg, cellsOf, cellD, boxA, allocA, storeA, putCells, Nat.reduceLeDiff, extA, iaddr_fz, elSize_eq ty26 ty2, intRows_length, hbk, intRows_getD hkt, ty2, ws, wk]
                refine hN2 _ (k + 1) ⟨by omega, by omega⟩ (by omega) (Sub.tell ⟨3, [], [], []⟩ (hq 3) rfl ?_ ?_)
                · exact ⟨⟨_, rfl, .same _ rfl⟩, ⟨_, rfl, .same _ rfl⟩, ⟨_, rfl, .same _ rfl⟩, ⟨_, rfl, .same _ rfl⟩, ⟨_, rfl, .same _ (by simp only [plain, intRows_plain])⟩, ⟨_, rfl, .same _ (by simp only [plain, intRows_plain])⟩, ⟨_, rfl, .ptr 1 1 0 0 rfl⟩, ⟨_, rfl, .ptr 0 0 0 0 rfl⟩, ⟨_, rfl, .same _ (by simp only [plain, instRows_plain])⟩, trivial⟩
                · exact ⟨.inl ⟨0, _, rfl, by simp, rfl, hcell _ _ _ _ _ _ (.same _ rfl)⟩, .inl ⟨1, _, rfl, by simp, rfl, hcell _ _ _ _ _ _ (.sl 2 2 2 0 _ rfl)⟩, .inl ⟨2, _, rfl, by simp, rfl, lowB_same (spanRows_plain _)⟩, trivial⟩
              · have hk : k = p + 1 := by omega
                subst hk
                have ht1 := hpos ts[i] (List.getElem_mem hit)
                have hne : ¬ ts[i] = 0 := by omega
                obtain ⟨hn1, hn2⟩ := hsum (i + 1) (p + 1)
                have wq : IntKind.i64.wrap (((ts.take (p + 1)).drop (i + 1)).sum.tdiv ts[i]) = ((ts.take (p + 1)).drop (i + 1)).sum.tdiv ts[i] := by
                  have g1 : 0 ≤ ((ts.take (p + 1)).drop (i + 1)).sum.tdiv ts[i] := Int.tdiv_nonneg hn1 (by omega)
                  have g2 : ((ts.take (p + 1)).drop (i + 1)).sum.tdiv ts[i] ≤ ((ts.take (p + 1)).drop (i + 1)).sum := by
                    rw [Int.tdiv_eq_ediv_of_nonneg hn1]
                    exact Int.ediv_le_self _ hn1
                  exact wrap_i64 (by omega) (by omega)
                generalize hd : ((ts.take (p + 1)).drop (i + 1)).sum.tdiv ts[i] = d at *
                have hle2 : u.2.2.length ≤ (spanRows u.2.2).length := by rw [spanRows_length]; exact Nat.le_refl _
                have hroom : ((u.2.2.length : Int) + ((1 : Nat) : Int)) * ((16 : Nat) : Int) ≤ 140737488355328 := by omega
                have htk : (spanRows u.2.2).take u.2.2.length = spanRows u.2.2 := List.take_of_length_le (by rw [spanRows_length]; exact Nat.le_refl _)
                simp only [EV, EX, hP, reduceIte, Nat.reduceEqDiff, Nat.reduceAdd, Nat.reduceSub, binA, IN, DR, DX, Nat.reduceMul, keysU, MX, buildA, fillA, faddrA, load_ptr, load_fp, rowOf_eq, packA, TK.isAgg, cellsOf, cellD, boxA, allocA, storeA, putCells, Nat.reduceLeDiff, extA, ty75, ty44, ty60, ty3, ty2, iaddr_fz, elSize_eq ty34 ty60, instRows_length, hb, instRows_getD hi2, Inst.row, elSize_eq ty26 ty2, intRows_length, hbt', intRows_getD hit, hne, if_false, hd, wq, ty73, cells_int, cells_agg, List.length_cons, List.length_nil, bslA, elTI_eq ty44, setRows, List.replicate_succ, List.replicate_zero, List.getD_cons_zero, Nat.reduceLT, Nat.reduceMul, true_and, and_true,
                  appA, rowsOf, hle2, hroom, htk, drF_eq]
                refine ⟨by kernel_rfl, ?_⟩
                simp only [EV, EX, hP, reduceIte, Nat.reduceEqDiff, Nat.reduceAdd, Nat.reduceSub, binA, IN, w1]
                have e1 : u.2.2.length + 1 = (u.2.2 ++ [(l[i].a, d)]).length := by simp
                have e2 : spanRows u.2.2 ++ [[.int .i64 l[i].a, .int .i64 d]] = spanRows (u.2.2 ++ [(l[i].a, d)]) := by rw [spanRows_append]; rfl
                rw [e1, e2]
                exact hfin _ _ 384 hst rfl rfl rfl rfl rfl rfl rfl rfl rfl rfl ⟨2, [(384, 2)], [], []⟩ (hq 2) rfl rfl rfl rfl rfl
          · simp only [h11, h0', h9, decide_false, EV, EX, hP, reduceIte, Nat.reduceEqDiff, Nat.reduceAdd, Nat.reduceSub, binA, IN, MX, buildA, fillA, faddrA, load_ptr, load_fp, rowOf_eq, packA, TK.isAgg, cellsOf, cellD, boxA, allocA, storeA, putCells, Nat.reduceLeDiff, extA, pickA, ty75, ty2, ty60, ty3, maxA, cells_int, List.length_cons, List.length_nil, iaddr_fz, elSize_eq ty34 ty60, instRows_length, hb, instRows_getD hi2, Inst.row, w1]
            exact hfin _ u 2 (by rw [hs, if_neg (by omega), if_neg h9]) rfl rfl rfl rfl rfl rfl rfl rfl rfl rfl ⟨3, [], [], []⟩ (hq 3) rfl rfl rfl rfl rfl
      · have hi2 : i = l.length := by omega
        subst hi2
        simp only [EV, EX, hP, reduceIte, Nat.reduceEqDiff, Nat.reduceAdd, Nat.reduceSub, binA, IN, MX, buildA, fillA, faddrA, load_ptr, load_fp, rowOf_eq, packA, TK.isAgg, cellsOf, cellD, boxA, allocA, storeA, putCells, Nat.reduceLeDiff, extA, ty75, cells_agg, List.length_cons, List.length_nil]
        have hfull : (ts.take l.length).sum = ts.sum := by rw [← htl, List.take_length]
        rw [hall] at hQ
        generalize costUpto l ts ps l.length = u at *
        simp only [hfull]
        refine hQ _ ⟨⟨0, [], [], [2]⟩, [.agg [.int .i64 ts.sum, .int .i64 u.1, .sl 2 2 0 u.2.2.length], .bool true], [.agg [.int .i64 ts.sum, .int .i64 u.1, .fz 2 (spanRows u.2.2)], .bool true], [], by simp only [resD, EV, EX, hP, reduceIte, Nat.reduceEqDiff, Nat.reduceAdd, Nat.reduceSub, MX, buildA, fillA, faddrA, load_ptr, load_fp, rowOf_eq, packA, TK.isAgg, cellsOf, cellD, boxA, allocA, storeA, putCells, Nat.reduceLeDiff, extA, ty75]; rfl, Nat.le_refl _, rfl,
          .cons _ _ _ _ (.agg _ _ rfl ?_) (.cons _ _ _ _ (.same _ rfl) .nil), trivial, rfl, rfl⟩
        intro j x y hx hy
        match j with
        | 0 => cases hx; cases hy; exact .same _ rfl
        | 1 => cases hx; cases hy; exact .same _ rfl
        | 2 => cases hx; cases hy; exact Tl.frzAll (by simp) rfl (by rw [spanRows_length]) (spanRows_plain _) (spanRows_rows _)
        | j + 3 => simp at hx
end Go.Fv
/- CONTRACTS: the document's task: May, Costs. -/
namespace Go.Fv
open Go.Proofs

def pieceP (l : List Inst) : Int := match costP l with | some c => c.piece | none => 0
def spansP (l : List Inst) : List (Int × Int) := match costP l with | some c => c.spans | none => []
theorem costD_nf (l : List Inst) : costD (costP l) = .tup [.agg [.int .i64 (longP l), .int .i64 (pieceP l), .fz 2 (spanRows (spansP l))], .bool (shapeMay l)] := by
  cases hs : shapeMay l with
  | false =>
    have hc : costP l = none := by simp [costP, hs]
    simp only [costD, longP, pieceP, spansP, hc]; rfl
  | true =>
    obtain ⟨c, hc⟩ := costP_some hs
    simp only [costD, longP, pieceP, spansP, hc]; rfl
theorem longP_none {l : List Inst} (h : shapeMay l = false) : longP l = 0 := by
  have hc : costP l = none := by simp [costP, h]
  simp only [longP, hc]
theorem longP_nonneg (l : List Inst) : 0 ≤ longP l := by
  cases hs : shapeMay l with
  | false => rw [longP_none hs]; exact Int.le_refl _
  | true =>
    obtain ⟨c, hc⟩ := costP_some hs
    have := costP_small hc
    simp only [longP, hc]; omega
theorem shapeMay_nil : shapeMay [] = false := shapeMay_no fun h => by simp at h

set_option maxRecDepth 100000 in
set_option maxHeartbeats 4000000 in
theorem s_rTaskMay (t : Tk) (hf : t.fit) : Pure Try.prog 33 [.agg t.row] (.int .i64 (mayT t)) := by
  obtain ⟨h1, h2, h3⟩ := hf
  have hM : maxL = 281474976710656 := rfl
  have c1 := s_rCost t.main (by omega)
  have c2 := s_rCost t.way (by omega)
  have c3 := s_rCost t.opt (by omega)
  have c4 := s_hasLock t.opt (by omega)
  rw [costD_nf] at c1 c2 c3
  have hz2 : t.way.length = 0 → shapeMay t.way = false := fun h => by rw [List.length_eq_zero_iff.1 h]; exact shapeMay_nil
  have hn2 : shapeMay t.way = false → longP t.way = 0 := longP_none
  have hn3 : t.opt.length = 0 → lockIn t.opt = false := fun h => by rw [List.length_eq_zero_iff.1 h]; rfl
  have hnn := longP_nonneg t.main
  have hP4 : lockIn t.opt = (t.opt.any fun x => decide (x.op = 9)) := rfl
  rw [← hP4] at c4
  refine Spec.walk ok33 fun C Q hP hN hQ => ?_
  unfold c33
  unfold mayT at hQ
  unfold orNone at hQ
  obtain ⟨rank, period, fin, main, way, opt⟩ := t
  simp only at c1 c2 c3 c4 hQ hz2 hn2 hn3 hnn
  clear hP4
  have hp1 : ∀ (a b : Int) (l : List (Int × Int)) (x : Bool), plain (.tup [.agg [.int .i64 a, .int .i64 b, .fz 2 (spanRows l)], .bool x]) = true := fun a b l x => by simp only [plain, plainL, spanRows_plain, Bool.and_self]
  generalize shapeMay main = b1 at *
  generalize shapeMay way = b2 at *
  generalize shapeMay opt = b3 at *
  generalize lockIn opt = b4 at *
  generalize longP main = n1 at *
  generalize longP way = n2 at *
  generalize longP opt = n3 at *
  have hp : ∀ l, plainL [DV.fz 4 (instRows l)] = true := fun l => by simp [plainL, plain, instRows_plain]
  simp only [EV, EX, hP, reduceIte, Nat.reduceEqDiff, Nat.reduceAdd, Nat.reduceSub, binA, IN, MX, buildA, fillA, faddrA, load_ptr, load_fp, rowOf_eq, packA, TK.isAgg, cellsOf, cellD, boxA, allocA, storeA, putCells, Nat.reduceLeDiff, extA, Tk.row, ty36, ty3, ty2, ty34]
  refine callW_pure hP c1 (hp _) (hp1 _ _ _ _) ?_
  simp only [EV, EX, hP, reduceIte, Nat.reduceEqDiff, Nat.reduceAdd, Nat.reduceSub, binA, IN, MX, buildA, fillA, faddrA, load_ptr, load_fp, rowOf_eq, packA, TK.isAgg, cellsOf, cellD, boxA, allocA, storeA, putCells, Nat.reduceLeDiff, extA, extA, ty75, ty36, ty3, ty2, ty34, List.getElem?_cons_zero, List.getElem?_cons_succ, cells_agg, List.length_cons, List.length_nil]
  refine callW_pure hP c2 (hp _) (hp1 _ _ _ _) ?_
  simp only [EV, EX, hP, reduceIte, Nat.reduceEqDiff, Nat.reduceAdd, Nat.reduceSub, binA, IN, MX, buildA, fillA, faddrA, load_ptr, load_fp, rowOf_eq, packA, TK.isAgg, cellsOf, cellD, boxA, allocA, storeA, putCells, Nat.reduceLeDiff, extA, extA, ty75, ty36, ty3, ty2, ty34, List.getElem?_cons_zero, List.getElem?_cons_succ, cells_agg, List.length_cons, List.length_nil]
  refine callW_pure hP c3 (hp _) (hp1 _ _ _ _) ?_
  simp only [EV, EX, hP, reduceIte, Nat.reduceEqDiff, Nat.reduceAdd, Nat.reduceSub, binA, IN, MX, buildA, fillA, faddrA, load_ptr, load_fp, rowOf_eq, packA, TK.isAgg, cellsOf, cellD, boxA, allocA, storeA, putCells, Nat.reduceLeDiff, extA, extA, ty75, ty36, ty3, ty2, ty34, List.getElem?_cons_zero, List.getElem?_cons_succ, cells_agg, List.length_cons, List.length_nil]
  repeat' (first
    | (refine condS_d (fun h => ?_) (fun h => ?_) <;> simp only [EV, EX, hP, reduceIte, Nat.reduceEqDiff, Nat.reduceAdd, Nat.reduceSub, binA, IN, MX, buildA, fillA, faddrA, load_ptr, load_fp, rowOf_eq, packA, TK.isAgg, cellsOf, cellD, boxA, allocA, storeA, putCells, Nat.reduceLeDiff, extA, ty36, ty3, ty2, ty34, ty75, pickA, unA, h, decide_true, decide_false, len_fz ty34, instRows_length])
    | (refine gdS_fd (fun h => ?_) (fun h => ?_) <;> simp only [EV, EX, hP, reduceIte, Nat.reduceEqDiff, Nat.reduceAdd, Nat.reduceSub, binA, IN, MX, buildA, fillA, faddrA, load_ptr, load_fp, rowOf_eq, packA, TK.isAgg, cellsOf, cellD, boxA, allocA, storeA, putCells, Nat.reduceLeDiff, extA, ty36, ty3, ty2, ty34, ty75, pickA, unA, h, decide_true, decide_false, len_fz ty34, instRows_length])
    | (refine gdS_td (fun h => ?_) (fun h => ?_) <;> simp only [EV, EX, hP, reduceIte, Nat.reduceEqDiff, Nat.reduceAdd, Nat.reduceSub, binA, IN, MX, buildA, fillA, faddrA, load_ptr, load_fp, rowOf_eq, packA, TK.isAgg, cellsOf, cellD, boxA, allocA, storeA, putCells, Nat.reduceLeDiff, extA, ty36, ty3, ty2, ty34, ty75, pickA, h, decide_true, decide_false, len_fz ty34, instRows_length, unA])
    | (refine condS_i (fun h => ?_) (fun h => ?_) <;> simp only [EV, EX, hP, reduceIte, Nat.reduceEqDiff, Nat.reduceAdd, Nat.reduceSub, binA, IN, MX, buildA, fillA, faddrA, load_ptr, load_fp, rowOf_eq, packA, TK.isAgg, cellsOf, cellD, boxA, allocA, storeA, putCells, Nat.reduceLeDiff, extA, ty36, ty3, ty2, ty34, ty75, pickA, unA, len_fz ty34, instRows_length])
    | (refine gdS_f (fun h => ?_) (fun h => ?_) <;> simp only [EV, EX, hP, reduceIte, Nat.reduceEqDiff, Nat.reduceAdd, Nat.reduceSub, binA, IN, MX, buildA, fillA, faddrA, load_ptr, load_fp, rowOf_eq, packA, TK.isAgg, cellsOf, cellD, boxA, allocA, storeA, putCells, Nat.reduceLeDiff, extA, ty36, ty3, ty2, ty34, ty75, pickA, h, len_fz ty34, instRows_length, unA])
    | (refine gdS_t (fun h => ?_) (fun h => ?_) <;> simp only [EV, EX, hP, reduceIte, Nat.reduceEqDiff, Nat.reduceAdd, Nat.reduceSub, binA, IN, MX, buildA, fillA, faddrA, load_ptr, load_fp, rowOf_eq, packA, TK.isAgg, cellsOf, cellD, boxA, allocA, storeA, putCells, Nat.reduceLeDiff, extA, ty36, ty3, ty2, ty34, ty75, pickA, h, len_fz ty34, instRows_length, unA])
    | (refine callW_pure hP c4 (hp _) rfl ?_; simp only [EV, EX, hP, reduceIte, Nat.reduceEqDiff, Nat.reduceAdd, Nat.reduceSub, binA, IN, MX, buildA, fillA, faddrA, load_ptr, load_fp, rowOf_eq, packA, TK.isAgg, cellsOf, cellD, boxA, allocA, storeA, putCells, Nat.reduceLeDiff, extA, ty36, ty3, ty2, ty34, pickA, unA])
    | (refine hQ _ <| retQ_pure _ rfl rfl ⟨?_, rfl⟩))
  all_goals (simp only [retV]; congr 1; repeat' split)
  all_goals first
    | rfl
    | omega
    | (exfalso; simp_all; done)
    | (exfalso; simp_all; omega)
    | (exfalso; simp_all <;> omega)
    | trace_state
end Go.Fv
/- CONTRACTS: the document's Costs. -/
namespace Go.Fv
open Go.Proofs

end Go.Fv
/- CONTRACTS: the document's Ceil, By. -/
namespace Go.Fv
open Go.Proofs

end Go.Fv
/- CONTRACTS: the document's MayRow, Reckon. -/
namespace Go.Fv
open Go.Proofs

end Go.Fv
/- CONTRACTS: the document's Right, Resp. -/
namespace Go.Fv
open Go.Proofs

end Go.Fv
/- CONTRACTS: choices read off numbers: Made, Num. -/
namespace Go.Fv
open Go.Proofs

def u8Rows (ps : List Int) : List (List DV) := ps.map fun x => [.int .u8 x]
theorem u8Rows_plain (ps : List Int) : plainR (u8Rows ps) = true := plainR_map fun _ => rfl
theorem u8Rows_length (ps : List Int) : (u8Rows ps).length = ps.length := by simp [u8Rows]
theorem u8Rows_getD {ps : List Int} {i : Nat} (h : i < ps.length) : (u8Rows ps).getD i [] = [.int .u8 ps[i]] := getD_map _ _ _ _ h
def pkB (ps : List Int) (n : Nat) : Blk := .rows 2 [[.fz 1 (u8Rows ps), .int .i64 n]]
def numV (ps : List Int) (n : Nat) (m : Int) : Int := if ps.length ≤ n then 0 else (ps.getD n 0).tmod m
def numN (ps : List Int) (n : Nat) : Nat := if ps.length ≤ n then n else n + 1
def bytes (ps : List Int) : Prop := ps.length ≤ maxL ∧ ∀ x ∈ ps, 0 ≤ x ∧ x ≤ 255
theorem numV_bound {ps : List Int} (hps : bytes ps) {n : Nat} {m : Int} (hm : 1 ≤ m) : 0 ≤ numV ps n m ∧ numV ps n m < m ∧ numV ps n m ≤ 255 := by
  unfold numV
  by_cases h : ps.length ≤ n
  · rw [if_pos h]; omega
  · rw [if_neg h]
    have hn : n < ps.length := by omega
    have e : ps.getD n 0 = ps[n] := by simp [List.getD_eq_getElem?_getD, hn]
    rw [e]
    have := hps.2 ps[n] (List.getElem_mem hn)
    have h1 := Int.tmod_nonneg m this.1
    have h2 := Int.tmod_lt_of_pos ps[n] (show 0 < m by omega)
    have h3 : ps[n].tmod m ≤ ps[n] := by
      rw [Int.tmod_eq_emod_of_nonneg this.1]
      have := Int.mul_ediv_add_emod ps[n] m
      have h4 : 0 ≤ ps[n] / m := Int.ediv_nonneg (by omega) (by omega)
      have := Int.mul_nonneg (show 0 ≤ m by omega) h4
      omega
    omega

set_option maxRecDepth 100000 in
theorem s_num (ps : List Int) (hps : bytes ps) (n : Nat) (m : Int) (hm : 1 ≤ m) (hm2 : m ≤ 1000000) : Spec Try.prog 32 [.ptr 0 0 0, .int .i64 m] 1 [(0, some (pkB ps n))]
    fun d U => d = .int .i64 (numV ps n m) ∧ U = [(0, some (pkB ps (numN ps n)))] := by
  have hM : maxL = 281474976710656 := rfl
  have hlen := hps.1
  refine Spec.walkU ok32 fun C Q hP hN hQ => ?_
  unfold c32
  have fin : ∀ (S : St) (v : Int) (k : Nat), numV ps n m = v → numN ps n = k → S.get 4 = some (.int .i64 v) → S.blk 0 = some (pkB ps k) → (Nm.mk 1 [] [] []).ok S.nx 17 = true → Q S := by
    intro S v k hv hk hg hb hok
    exact hQ S ⟨⟨1, [], [], []⟩, [.int .i64 v], [.int .i64 v], [(0, some (pkB ps k))], [(0, some (pkB ps k))], by simp only [resD, hg]; rfl, Nat.le_refl _, hok, .cons _ _ _ _ (.same _ rfl) .nil, ⟨.inl ⟨0, _, rfl, by simp, hb, lowB_same (by simp only [plainR, plainL, plain, u8Rows_plain, Bool.and_self])⟩, trivial⟩, lkO_over, by rw [hv, hk]; exact ⟨rfl, rfl⟩⟩
  by_cases h : ps.length ≤ n
  · have h1 : (ps.length : Int) ≤ (n : Int) := by omega
    simp only [EV, EX, hP, reduceIte, Nat.reduceEqDiff, Nat.reduceAdd, Nat.reduceSub, binA, IN, DR, DX, Nat.reduceMul, keysU, MX, buildA, fillA, faddrA, load_ptr, load_fp, rowOf_eq, packA, TK.isAgg, cellsOf, cellD, boxA, allocA, storeA, putCells, Nat.reduceLeDiff, extA, nilckA, pkB, ty79, ty3, ty22, len_fz ty22, u8Rows_length, h1, decide_true, drF_eq]
    refine ⟨by kernel_rfl, ?_⟩
    exact fin _ 0 n (by unfold numV; rw [if_pos h]) (by unfold numN; rw [if_pos h]) rfl rfl rfl
  · have h1 : ¬ (ps.length : Int) ≤ (n : Int) := by omega
    have hn : n < ps.length := by omega
    have w1 : IntKind.i64.wrap ((n : Int) + 1) = ((n + 1 : Nat) : Int) := by rw [wrap_i64 (by omega) (by omega)]; omega
    have w2 : IntKind.i64.wrap (((n + 1 : Nat) : Int) - 1) = (n : Int) := by rw [wrap_i64 (by omega) (by omega)]; omega
    have hb : (0 : Int) ≤ n ∧ (n : Int) < ps.length := by omega
    have he := hps.2 ps[n] (List.getElem_mem hn)
    have w3 : IntKind.i64.wrap ps[n] = ps[n] := wrap_i64 (by omega) (by omega)
    have hm0 : ¬ m = 0 := by omega
    have hv : numV ps n m = ps[n].tmod m := by
      unfold numV
      rw [if_neg h, List.getD_eq_getElem?_getD, List.getElem?_eq_getElem hn]; rfl
    have hvb := numV_bound hps (n := n) hm
    rw [hv] at hvb
    have w4 : IntKind.i64.wrap (ps[n].tmod m) = ps[n].tmod m := wrap_i64 (by omega) (by omega)
    simp only [EV, EX, hP, reduceIte, Nat.reduceEqDiff, Nat.reduceAdd, Nat.reduceSub, binA, IN, DR, DX, Nat.reduceMul, keysU, MX, buildA, fillA, faddrA, load_ptr, load_fp, rowOf_eq, packA, TK.isAgg, cellsOf, cellD, boxA, allocA, storeA, putCells, Nat.reduceLeDiff, extA, nilckA, pkB, ty79, ty3, ty22, len_fz ty22, u8Rows_length, h1, decide_false, drF_eq]
    refine ⟨by kernel_rfl, ?_⟩
    simp only [EV, EX, hP, reduceIte, Nat.reduceEqDiff, Nat.reduceAdd, Nat.reduceSub, binA, IN, DR, DX, Nat.reduceMul, keysU, MX, buildA, fillA, faddrA, load_ptr, load_fp, rowOf_eq, packA, TK.isAgg, cellsOf, cellD, boxA, allocA, storeA, putCells, Nat.reduceLeDiff, extA, nilckA, ty79, ty3, ty22, ty5, w1, w2, cells_int, List.length_cons, List.length_nil, iaddr_fz, elSize_eq ty22 ty5, u8Rows_length, hb, u8Rows_getD hn, convA, w3, hm0, if_false, w4, drF_eq]
    refine ⟨by kernel_rfl, ?_⟩
    exact fin _ _ (n + 1) hv (by unfold numN; rw [if_neg h]) rfl rfl rfl

theorem call_num (ps : List Int) (hps : bytes ps) (n : Nat) (m : Int) (hm : 1 ≤ m) (hm2 : m ≤ 1000000) (nm nb : Nat) (h : Nat → Option Blk) (hb : h nm = some (pkB ps n)) :
    CallR Try.prog (.fn 32 [] []) [.ptr nm 0 0, .int .i64 m] h nb fun d U => d = .int .i64 (numV ps n m) ∧ U = [(nm, some (pkB ps (numN ps n)))] := by
  have hpl : ∀ n, renB (sg [nm] nb) (pkB ps n) = some (pkB ps n) := fun n => by simp [pkB, renB, renR, renL, ren, plainR_ren, u8Rows_plain]
  refine (s_num ps hps n m hm hm2).callR [nm] nb rfl (by simp) rfl (by simp [renL, ren, sg]) ⟨⟨_, _, rfl, hpl n, hb⟩, trivial⟩ ?_
  rintro d U ⟨rfl, rfl⟩
  exact ⟨.int .i64 (numV ps n m), _, rfl, by simp only [renU, renOB, hpl]; rfl, rfl, rfl⟩

theorem s_made (ps : List Int) : Spec Try.prog 23 [.fz 1 (u8Rows ps)] 0 [] fun d U => d = .ptr 0 0 0 ∧ U = [(0, some (pkB ps 0))] := by
  refine Spec.walkU ok23 fun C Q hP hN hQ => ?_
  unfold c23
  simp only [EV, EX, hP, reduceIte, Nat.reduceEqDiff, Nat.reduceAdd, Nat.reduceSub, binA, IN, MX, buildA, fillA, faddrA, load_ptr, load_fp, rowOf_eq, packA, TK.isAgg, cellsOf, cellD, boxA, allocA, storeA, putCells, Nat.reduceLeDiff, extA, ty79, fillA, cells_agg, List.length_cons, List.length_nil]
  refine hQ _ ⟨⟨0, [(48, 0)], [], []⟩, [.ptr 48 0 0], [.ptr 0 0 0], [(0, some (pkB ps 0))], [(0, some (pkB ps 0))], rfl, Nat.le_refl _, rfl, .cons _ _ _ _ (.ptr 48 0 0 0 rfl) .nil, ⟨.inl ⟨48, _, rfl, by simp, rfl, lowB_same (by simp only [plainR, plainL, plain, u8Rows_plain, Bool.and_self])⟩, trivial⟩, rfl, rfl, rfl⟩

theorem call_made (ps : List Int) (nb : Nat) (h : Nat → Option Blk) :
    CallR Try.prog (.fn 23 [] []) [.fz 1 (u8Rows ps)] h nb fun d U => d = .ptr nb 0 0 ∧ U = [(nb, some (pkB ps 0))] := by
  have hpl : ∀ n, renB (sg [] nb) (pkB ps n) = some (pkB ps n) := fun n => by simp [pkB, renB, renR, renL, ren, plainR_ren, u8Rows_plain]
  refine (s_made ps).callR [] nb rfl (by simp) rfl (by simp [renL, ren, sg, plainR_ren, u8Rows_plain]) trivial ?_
  rintro d U ⟨rfl, rfl⟩
  exact ⟨.ptr nb 0 0, _, rfl, by simp only [renU, renOB, hpl]; rfl, rfl, rfl⟩
end Go.Fv
/- CONTRACTS: choices read off numbers: plain ones, pieces. -/
namespace Go.Fv
open Go.Proofs

set_option maxRecDepth 100000 in
theorem s_plain (ps : List Int) (hps : bytes ps) (n : Nat) : Spec Try.prog 85 [.ptr 0 0 0] 1 [(0, some (pkB ps n))]
    fun d U => ∃ (x : Inst) (k : Nat), d = .agg x.row ∧ U = [(0, some (pkB ps k))] := by
  refine Spec.walkU ok85 fun C Q hP hN hQ => ?_
  unfold c85
  have hnum : ∀ (n : Nat) (m : Int), 1 ≤ m → m ≤ 1000000 → ∀ (nb : Nat) (h : Nat → Option Blk), h 0 = some (pkB ps n) → CallR C.P (.fn 32 [] []) [.ptr 0 0 0, .int .i64 m] h nb fun d U => d = .int .i64 (numV ps n m) ∧ U = [(0, some (pkB ps (numN ps n)))] := fun n m h1 h2 nb h hb => by
    rw [hP]; exact call_num ps hps n m h1 h2 0 nb h hb
  have fin : ∀ (S : St) (a b c d : Int) (k : Nat), resD (tiOf C.P) S [.cell 2 60] = some [.agg [.int .i64 a, .int .i64 b, .int .i64 c, .int .i64 d]] → S.blk 0 = some (pkB ps k) → (Nm.mk 1 [] [] []).ok S.nx 17 = true → Q S := by
    intro S a b c d k hg hb hok
    exact hQ S ⟨⟨1, [], [], []⟩, [.agg [.int .i64 a, .int .i64 b, .int .i64 c, .int .i64 d]], [.agg [.int .i64 a, .int .i64 b, .int .i64 c, .int .i64 d]], [(0, some (pkB ps k))], [(0, some (pkB ps k))], hg, Nat.le_refl _, hok, .cons _ _ _ _ (.same _ rfl) .nil, ⟨.inl ⟨0, _, rfl, by simp, hb, lowB_same (by simp only [plainR, plainL, plain, u8Rows_plain, Bool.and_self])⟩, trivial⟩, lkO_over, ⟨a, b, c, d⟩, k, rfl, rfl⟩
  simp only [EV, EX, hP, reduceIte, Nat.reduceEqDiff, Nat.reduceAdd, Nat.reduceSub, binA, IN, MX, buildA, fillA, faddrA, load_ptr, load_fp, rowOf_eq, packA, TK.isAgg, cellsOf, cellD, boxA, allocA, storeA, putCells, Nat.reduceLeDiff, extA, ty60]
  refine callW_of (hnum _ 3 (by decide) (by decide) _ _ rfl) ?_
  rintro d U ⟨rfl, rfl⟩
  simp only [EV, EX, hP, reduceIte, Nat.reduceEqDiff, Nat.reduceAdd, Nat.reduceSub, binA, IN, MX, buildA, fillA, faddrA, load_ptr, load_fp, rowOf_eq, packA, TK.isAgg, cellsOf, cellD, boxA, allocA, storeA, putCells, Nat.reduceLeDiff, extA]
  refine callW_of (hnum _ 3 (by decide) (by decide) _ _ rfl) ?_
  rintro d U ⟨rfl, rfl⟩
  simp only [EV, EX, hP, reduceIte, Nat.reduceEqDiff, Nat.reduceAdd, Nat.reduceSub, binA, IN, MX, buildA, fillA, faddrA, load_ptr, load_fp, rowOf_eq, packA, TK.isAgg, cellsOf, cellD, boxA, allocA, storeA, putCells, Nat.reduceLeDiff, extA]
  refine callW_of (hnum _ 6 (by decide) (by decide) _ _ rfl) ?_
  rintro d U ⟨rfl, rfl⟩
  simp only [EV, EX, hP, reduceIte, Nat.reduceEqDiff, Nat.reduceAdd, Nat.reduceSub, binA, IN, MX, buildA, fillA, faddrA, load_ptr, load_fp, rowOf_eq, packA, TK.isAgg, cellsOf, cellD, boxA, allocA, storeA, putCells, Nat.reduceLeDiff, extA]
  repeat' (first
    | (refine condS_d (fun h => ?_) (fun h => ?_) <;> simp only [EV, EX, hP, reduceIte, Nat.reduceEqDiff, Nat.reduceAdd, Nat.reduceSub, binA, IN, MX, buildA, fillA, faddrA, load_ptr, load_fp, rowOf_eq, packA, TK.isAgg, cellsOf, cellD, boxA, allocA, storeA, putCells, Nat.reduceLeDiff, extA, ty60, fillA, Option.map_some, cells_agg, List.length_cons, List.length_nil])
    | (refine callW_of (hnum _ _ (by decide) (by decide) _ _ rfl) ?_
       rintro d U ⟨rfl, rfl⟩
       simp only [EV, EX, hP, reduceIte, Nat.reduceEqDiff, Nat.reduceAdd, Nat.reduceSub, binA, IN, MX, buildA, fillA, faddrA, load_ptr, load_fp, rowOf_eq, packA, TK.isAgg, cellsOf, cellD, boxA, allocA, storeA, putCells, Nat.reduceLeDiff, extA, ty60, fillA, Option.map_some, cells_agg, List.length_cons, List.length_nil])
    | exact fin _ _ _ _ _ _ (by simp only [resD, hP, EV, EX, hP, reduceIte, Nat.reduceEqDiff, Nat.reduceAdd, Nat.reduceSub, MX, buildA, fillA, faddrA, load_ptr, load_fp, rowOf_eq, packA, TK.isAgg, cellsOf, cellD, boxA, allocA, storeA, putCells, Nat.reduceLeDiff, extA, ty60]; rfl) rfl rfl)

theorem call_plain (ps : List Int) (hps : bytes ps) (n : Nat) (nm nb : Nat) (h : Nat → Option Blk) (hb : h nm = some (pkB ps n)) :
    CallR Try.prog (.fn 85 [] []) [.ptr nm 0 0] h nb fun d U => ∃ (x : Inst) (k : Nat), d = .agg x.row ∧ U = [(nm, some (pkB ps k))] := by
  have hpl : ∀ n, renB (sg [nm] nb) (pkB ps n) = some (pkB ps n) := fun n => by simp [pkB, renB, renR, renL, ren, plainR_ren, u8Rows_plain]
  refine (s_plain ps hps n).callR [nm] nb rfl (by simp) rfl (by simp [renL, ren, sg]) ⟨⟨_, _, rfl, hpl n, hb⟩, trivial⟩ ?_
  rintro d U ⟨x, k, rfl, rfl⟩
  exact ⟨.agg x.row, _, rfl, by simp only [renU, renOB, hpl]; rfl, x, k, rfl, rfl⟩

set_option maxRecDepth 100000 in
theorem s_some (ps : List Int) (hps : bytes ps) (n : Nat) (locks : Int) (h0 : 0 ≤ locks) (hlk : locks ≤ 100) : Spec Try.prog 62 [.ptr 0 0 0, .int .i64 2, .int .i64 locks] 1 [(0, some (pkB ps n))]
    fun d U => ∃ (c : List Inst) (k : Nat), c.length ≤ 6 ∧ d = .fz 4 (instRows c) ∧ U = [(0, some (pkB ps k))] := by
  refine Spec.walkU ok62 fun C Q hP hN hQ => ?_
  unfold c62
  have hq : ∀ q, 1 ≤ q → ∀ n, C.N0 n → n < q := fun q h n hn => by have := hN n hn; omega
  have hnum : ∀ (n : Nat) (m : Int), 1 ≤ m → m ≤ 1000000 → ∀ (nb : Nat) (h : Nat → Option Blk), h 0 = some (pkB ps n) → CallR C.P (.fn 32 [] []) [.ptr 0 0 0, .int .i64 m] h nb fun d U => d = .int .i64 (numV ps n m) ∧ U = [(0, some (pkB ps (numN ps n)))] := fun n m h1 h2 nb h hb => by
    rw [hP]; exact call_num ps hps n m h1 h2 0 nb h hb
  have hpla : ∀ (n : Nat) (nb : Nat) (h : Nat → Option Blk), h 0 = some (pkB ps n) → CallR C.P (.fn 85 [] []) [.ptr 0 0 0] h nb fun d U => ∃ (x : Inst) (k : Nat), d = .agg x.row ∧ U = [(0, some (pkB ps k))] := fun n nb h hb => by
    rw [hP]; exact call_plain ps hps n 0 nb h hb
  have hpk : ∀ (M : Nm) (H : Nat → Option Blk) k, TlB M H (pkB ps k) (pkB ps k) := fun M H k => lowB_same (by simp only [plainR, plainL, plain, u8Rows_plain, Bool.and_self])
  have hv2 := numV_bound hps (n := n) (m := 2) (by decide)
  have w0 : IntKind.i64.wrap (numV ps n 2 + 1) = numV ps n 2 + 1 := wrap_i64 (by omega) (by omega)
  simp only [EV, EX, hP, reduceIte, Nat.reduceEqDiff, Nat.reduceAdd, Nat.reduceSub, binA, IN]
  refine callW_of (hnum _ 2 (by decide) (by decide) _ _ rfl) ?_
  rintro d U ⟨rfl, rfl⟩
  simp only [EV, EX, hP, reduceIte, Nat.reduceEqDiff, Nat.reduceAdd, Nat.reduceSub, binA, IN, w0]
  obtain ⟨i0, hi0⟩ : ∃ i0 : Nat, numV ps n 2 + 1 = (i0 : Int) := ⟨(numV ps n 2 + 1).toNat, by omega⟩
  rw [hi0]
  refine LoopW.by (fun (x : Nat × Nat × List Inst) => ⟨[(8, some (.int .i64 (x.1 : Nat))), (7, some (.sl 4 1 0 x.2.2.length)), (0, some (.ptr 0 0 0)), (2, some (.int .i64 locks))], [(0, some (pkB ps x.2.1)), (1, some (.rows 4 (instRows x.2.2)))], 33⟩)
    (fun x => x.2.2.length + 3 * x.1 ≤ 6) (fun x => x.1) (i0, numN ps n, []) (by simp only [List.length_nil]; omega) ?_ ?_
  · exact Sub.tell ⟨1, [], [(1, 4)], []⟩ (hq 1 (by decide)) rfl ⟨⟨_, rfl, .same _ rfl⟩, ⟨_, rfl, .own 4 1 rfl⟩, ⟨_, rfl, .ptr 0 0 0 0 rfl⟩, ⟨_, rfl, .same _ rfl⟩, trivial⟩ ⟨.inl ⟨0, _, rfl, by simp, rfl, hpk _ _ _⟩, .inr ⟨4, rfl, rfl⟩, trivial⟩
  · rintro ⟨i, m, c⟩ hc N hN'
    simp only at hc hN'
    have hwi : 0 < (i : Int) → IntKind.i64.wrap ((i : Int) - 1) = ((i - 1 : Nat) : Int) := fun h => by rw [wrap_i64 (by omega) (by omega)]; omega
    have hnx : ∀ (S : St) (j : Nat) (c' : List Inst) (nm : Nat), 0 < i → c'.length ≤ c.length + 3 → S.get 8 = some (.int .i64 ((i - 1 : Nat) : Int)) → S.get 7 = some (.sl 4 nm 0 c'.length) → S.get 0 = some (.ptr 0 0 0) → S.get 2 = some (.int .i64 locks) → S.blk 0 = some (pkB ps j) → S.blk nm = some (.rows 4 (instRows c')) →
        (Nm.mk 1 [(nm, 1)] [] []).ok S.nx 33 = true → (Nm.mk 1 [(nm, 1)] [] []).new 0 = some 0 → (Nm.mk 1 [(nm, 1)] [] []).new nm = some 1 → N S := by
      intro S j c' nm hi hl g1 g2 g3 g4 b0 b1 hok hnew0 hnew
      exact hN' _ (i - 1, j, c') (by simp only; omega) (by simp only; omega) (Sub.tell ⟨1, [(nm, 1)], [], []⟩ (hq 1 (by decide)) hok ⟨⟨_, g1, .same _ rfl⟩, ⟨_, g2, .sl 4 nm 1 0 _ hnew⟩, ⟨_, g3, .ptr 0 0 0 0 hnew0⟩, ⟨_, g4, .same _ rfl⟩, trivial⟩ ⟨.inl ⟨0, _, hnew0, by simp, b0, hpk _ _ _⟩, .inl ⟨nm, _, hnew, by simp, b1, lowB_same (instRows_plain _)⟩, trivial⟩)
    have hle : c.length ≤ (instRows c).length := by rw [instRows_length]; exact Nat.le_refl _
    have htk : (instRows c).take c.length = instRows c := List.take_of_length_le (by rw [instRows_length]; exact Nat.le_refl _)
    have hroom : ((c.length : Int) + ((1 : Nat) : Int)) * ((32 : Nat) : Int) ≤ 140737488355328 := by omega
    simp only [EV, EX, hP, reduceIte, Nat.reduceEqDiff, Nat.reduceAdd, Nat.reduceSub, binA, IN]
    refine condS_d (fun h => ?_) (fun h => ?_)
    · have w1 := hwi h
      simp only [EV, EX, hP, reduceIte, Nat.reduceEqDiff, Nat.reduceAdd, Nat.reduceSub, binA, IN]
      have hplain : ∀ (x : Inst) (j : Nat), True := fun _ _ => trivial
      by_cases hl : 0 < locks
      · simp only [hl, decide_true, EV, EX, hP, reduceIte, Nat.reduceEqDiff, Nat.reduceAdd, Nat.reduceSub, binA, IN]
        refine callW_of (hnum _ 4 (by decide) (by decide) _ _ rfl) ?_
        rintro d U ⟨rfl, rfl⟩
        simp only [EV, EX, hP, reduceIte, Nat.reduceEqDiff, Nat.reduceAdd, Nat.reduceSub, binA, IN, pickA]
        refine condS_d (fun h4 => ?_) (fun h4 => ?_)
        · simp only [EV, EX, hP, reduceIte, Nat.reduceEqDiff, Nat.reduceAdd, Nat.reduceSub, binA, IN]
          refine callW_of (hnum _ locks (by omega) (by omega) _ _ rfl) ?_
          rintro d U ⟨rfl, rfl⟩
          simp only [EV, EX, hP, reduceIte, Nat.reduceEqDiff, Nat.reduceAdd, Nat.reduceSub, binA, IN, MX, buildA, fillA, faddrA, load_ptr, load_fp, rowOf_eq, packA, TK.isAgg, cellsOf, cellD, boxA, allocA, storeA, putCells, Nat.reduceLeDiff, extA, ty60, fillA, Option.map_some, cells_agg, List.length_cons, List.length_nil, bslA, elTI_eq ty34, setRows, List.replicate_succ, List.replicate_zero, List.getD_cons_zero, Nat.reduceLT, Nat.reduceMul, true_and, and_true, appA, ty34, rowsOf, hle, htk, hroom]
          generalize numV ps (numN ps m) locks = v
          have e1 : c.length + 1 = (c ++ [(⟨9, v, 0, 0⟩ : Inst)]).length := by simp
          have e2 : instRows c ++ [[.int .i64 9, .int .i64 v, .int .i64 0, .int .i64 0]] = instRows (c ++ [⟨9, v, 0, 0⟩]) := by rw [instRows_append]; rfl
          rw [e1, e2]
          obtain ⟨c2, hc2⟩ : ∃ c2, c2 = c ++ [(⟨9, v, 0, 0⟩ : Inst)] := ⟨_, rfl⟩
          rw [← hc2]
          have hl2 : c2.length = c.length + 1 := by rw [hc2]; simp
          refine callW_of (hpla _ _ _ rfl) ?_
          rintro d U ⟨x, j, rfl, rfl⟩
          have hle2 : c2.length ≤ (instRows c2).length := by rw [instRows_length]; exact Nat.le_refl _
          have htk2 : (instRows c2).take c2.length = instRows c2 := List.take_of_length_le (by rw [instRows_length]; exact Nat.le_refl _)
          have hroom2 : ((c2.length : Int) + ((1 : Nat) : Int)) * ((32 : Nat) : Int) ≤ 140737488355328 := by omega
          have hle3 : c2.length + 1 ≤ (instRows c2 ++ [[DV.int .i64 x.op, .int .i64 x.a, .int .i64 x.b, .int .i64 x.n]]).length := by rw [List.length_append, instRows_length]; exact Nat.le_refl _
          have htk3 : (instRows c2 ++ [[DV.int .i64 x.op, .int .i64 x.a, .int .i64 x.b, .int .i64 x.n]]).take (c2.length + 1) = instRows c2 ++ [[DV.int .i64 x.op, .int .i64 x.a, .int .i64 x.b, .int .i64 x.n]] := List.take_of_length_le (by rw [List.length_append, instRows_length]; exact Nat.le_refl _)
          have hroom3 : (((c2.length + 1 : Nat) : Int) + ((1 : Nat) : Int)) * ((32 : Nat) : Int) ≤ 140737488355328 := by omega
          simp only [EV, EX, hP, reduceIte, Nat.reduceEqDiff, Nat.reduceAdd, Nat.reduceSub, binA, IN, MX, buildA, fillA, faddrA, load_ptr, load_fp, rowOf_eq, packA, TK.isAgg, cellsOf, cellD, boxA, allocA, storeA, putCells, Nat.reduceLeDiff, extA, ty60, Inst.row, fillA, Option.map_some, cells_agg, List.length_cons, List.length_nil, bslA, elTI_eq ty34, setRows, List.replicate_succ, List.replicate_zero, List.getD_cons_zero, Nat.reduceLT, Nat.reduceMul, true_and, and_true, appA, ty34, rowsOf, hle2, htk2, hroom2, hle3, htk3, hroom3, w1]
          have e3 : c2.length + 1 + 1 = (c2 ++ [x, (⟨10, v, 0, 0⟩ : Inst)]).length := by simp
          have e4 : instRows c2 ++ [[.int .i64 x.op, .int .i64 x.a, .int .i64 x.b, .int .i64 x.n]] ++ [[.int .i64 10, .int .i64 v, .int .i64 0, .int .i64 0]] = instRows (c2 ++ [x, ⟨10, v, 0, 0⟩]) := by rw [instRows_append, List.append_assoc]; rfl
          rw [e3, e4]
          exact hnx _ j (c2 ++ [x, ⟨10, v, 0, 0⟩]) 433 (by omega) (by simp; omega) rfl rfl rfl rfl rfl rfl rfl rfl rfl
        · simp only [EV, EX, hP, reduceIte, Nat.reduceEqDiff, Nat.reduceAdd, Nat.reduceSub, binA, IN]
          refine callW_of (hpla _ _ _ rfl) ?_
          rintro d U ⟨x, j, rfl, rfl⟩
          simp only [EV, EX, hP, reduceIte, Nat.reduceEqDiff, Nat.reduceAdd, Nat.reduceSub, binA, IN, MX, buildA, fillA, faddrA, load_ptr, load_fp, rowOf_eq, packA, TK.isAgg, cellsOf, cellD, boxA, allocA, storeA, putCells, Nat.reduceLeDiff, extA, ty60, Inst.row, cells_agg, List.length_cons, List.length_nil, bslA, elTI_eq ty34, setRows, List.replicate_succ, List.replicate_zero, List.getD_cons_zero, Nat.reduceLT, Nat.reduceMul, true_and, and_true, appA, ty34, rowsOf, hle, htk, hroom, w1]
          have e1 : c.length + 1 = (c ++ [x]).length := by simp
          have e2 : instRows c ++ [[.int .i64 x.op, .int .i64 x.a, .int .i64 x.b, .int .i64 x.n]] = instRows (c ++ [x]) := by rw [instRows_append]; rfl
          rw [e1, e2]
          exact hnx _ j (c ++ [x]) 241 (by omega) (by simp) rfl rfl rfl rfl rfl rfl rfl rfl rfl
      · simp only [hl, decide_false, EV, EX, hP, reduceIte, Nat.reduceEqDiff, Nat.reduceAdd, Nat.reduceSub, binA, IN, pickA]
        refine callW_of (hpla _ _ _ rfl) ?_
        rintro d U ⟨x, j, rfl, rfl⟩
        simp only [EV, EX, hP, reduceIte, Nat.reduceEqDiff, Nat.reduceAdd, Nat.reduceSub, binA, IN, MX, buildA, fillA, faddrA, load_ptr, load_fp, rowOf_eq, packA, TK.isAgg, cellsOf, cellD, boxA, allocA, storeA, putCells, Nat.reduceLeDiff, extA, ty60, Inst.row, cells_agg, List.length_cons, List.length_nil, bslA, elTI_eq ty34, setRows, List.replicate_succ, List.replicate_zero, List.getD_cons_zero, Nat.reduceLT, Nat.reduceMul, true_and, and_true, appA, ty34, rowsOf, hle, htk, hroom, w1]
        have e1 : c.length + 1 = (c ++ [x]).length := by simp
        have e2 : instRows c ++ [[.int .i64 x.op, .int .i64 x.a, .int .i64 x.b, .int .i64 x.n]] = instRows (c ++ [x]) := by rw [instRows_append]; rfl
        rw [e1, e2]
        exact hnx _ j (c ++ [x]) 241 (by omega) (by simp) rfl rfl rfl rfl rfl rfl rfl rfl rfl
    · simp only [EV, EX, hP, reduceIte, Nat.reduceEqDiff, Nat.reduceAdd, Nat.reduceSub, binA, IN]
      refine hQ _ ⟨⟨1, [], [], [1]⟩, [.sl 4 1 0 c.length], [.fz 4 (instRows c)], [(0, some (pkB ps m))], [(0, some (pkB ps m))], rfl, Nat.le_refl _, rfl, .cons _ _ _ _ (Tl.frzAll (by simp) rfl (by rw [instRows_length]) (instRows_plain _) (instRows_rows _)) .nil, ⟨.inl ⟨0, _, rfl, by simp, rfl, hpk _ _ _⟩, trivial⟩, lkO_over, c, m, by omega, rfl, rfl⟩
end Go.Fv
/- CONTRACTS: choices read off numbers: a program. -/
namespace Go.Fv
open Go.Proofs

theorem call_some (ps : List Int) (hps : bytes ps) (n : Nat) (locks : Int) (h0 : 0 ≤ locks) (hlk : locks ≤ 100) (nm nb : Nat) (h : Nat → Option Blk) (hb : h nm = some (pkB ps n)) :
    CallR Try.prog (.fn 62 [] []) [.ptr nm 0 0, .int .i64 2, .int .i64 locks] h nb fun d U => ∃ (c : List Inst) (k : Nat), c.length ≤ 6 ∧ d = .fz 4 (instRows c) ∧ U = [(nm, some (pkB ps k))] := by
  have hpl : ∀ n, renB (sg [nm] nb) (pkB ps n) = some (pkB ps n) := fun n => by simp [pkB, renB, renR, renL, ren, plainR_ren, u8Rows_plain]
  refine (s_some ps hps n locks h0 hlk).callR [nm] nb rfl (by simp) rfl (by simp [renL, ren, sg]) ⟨⟨_, _, rfl, hpl n, hb⟩, trivial⟩ ?_
  rintro d U ⟨c, k, hc, rfl, rfl⟩
  exact ⟨.fz 4 (instRows c), _, plain_ren _ (by simp only [plain, instRows_plain]), by simp only [renU, renOB, hpl]; rfl, c, k, hc, rfl, rfl⟩

set_option maxRecDepth 100000 in
theorem s_code (ps : List Int) (hps : bytes ps) (n : Nat) (locks : Int) (h0 : 0 ≤ locks) (hlk : locks ≤ 100) : Spec Try.prog 45 [.ptr 0 0 0, .int .i64 locks] 1 [(0, some (pkB ps n))]
    fun d U => ∃ (c : List Inst) (k : Nat), c.length ≤ 24 ∧ d = .fz 4 (instRows c) ∧ U = [(0, some (pkB ps k))] := by
  refine Spec.walkU ok45 fun C Q hP hN hQ => ?_
  unfold c45
  have hq : ∀ q, 1 ≤ q → ∀ n, C.N0 n → n < q := fun q h n hn => by have := hN n hn; omega
  have hnum : ∀ (n : Nat) (m : Int), 1 ≤ m → m ≤ 1000000 → ∀ (nb : Nat) (h : Nat → Option Blk), h 0 = some (pkB ps n) → CallR C.P (.fn 32 [] []) [.ptr 0 0 0, .int .i64 m] h nb fun d U => d = .int .i64 (numV ps n m) ∧ U = [(0, some (pkB ps (numN ps n)))] := fun n m h1 h2 nb h hb => by
    rw [hP]; exact call_num ps hps n m h1 h2 0 nb h hb
  have hsom : ∀ (n : Nat) (nb : Nat) (h : Nat → Option Blk), h 0 = some (pkB ps n) → CallR C.P (.fn 62 [] []) [.ptr 0 0 0, .int .i64 2, .int .i64 locks] h nb fun d U => ∃ (c : List Inst) (k : Nat), c.length ≤ 6 ∧ d = .fz 4 (instRows c) ∧ U = [(0, some (pkB ps k))] := fun n nb h hb => by
    rw [hP]; exact call_some ps hps n locks h0 hlk 0 nb h hb
  have hpk : ∀ (M : Nm) (H : Nat → Option Blk) k, TlB M H (pkB ps k) (pkB ps k) := fun M H k => lowB_same (by simp only [plainR, plainL, plain, u8Rows_plain, Bool.and_self])
  have hv2 := numV_bound hps (n := n) (m := 4) (by decide)
  have w0 : IntKind.i64.wrap (numV ps n 4 + 1) = numV ps n 4 + 1 := wrap_i64 (by omega) (by omega)
  simp only [EV, EX, hP, reduceIte, Nat.reduceEqDiff, Nat.reduceAdd, Nat.reduceSub, binA, IN]
  refine callW_of (hnum _ 4 (by decide) (by decide) _ _ rfl) ?_
  rintro d U ⟨rfl, rfl⟩
  simp only [EV, EX, hP, reduceIte, Nat.reduceEqDiff, Nat.reduceAdd, Nat.reduceSub, binA, IN, w0]
  obtain ⟨i0, hi0⟩ : ∃ i0 : Nat, numV ps n 4 + 1 = (i0 : Int) := ⟨(numV ps n 4 + 1).toNat, by omega⟩
  rw [hi0]
  refine LoopW.by (fun (x : Nat × Nat × List Inst) => ⟨[(6, some (.int .i64 (x.1 : Nat))), (5, some (.sl 4 1 0 x.2.2.length)), (0, some (.ptr 0 0 0)), (1, some (.int .i64 locks))], [(0, some (pkB ps x.2.1)), (1, some (.rows 4 (instRows x.2.2)))], 33⟩)
    (fun x => x.2.2.length ≤ 22 ∧ x.1 ≤ 10) (fun x => x.1) (i0, numN ps n, []) (by simp only [List.length_nil]; omega) ?_ ?_
  · exact Sub.tell ⟨1, [], [(1, 4)], []⟩ (hq 1 (by decide)) rfl ⟨⟨_, rfl, .same _ rfl⟩, ⟨_, rfl, .own 4 1 rfl⟩, ⟨_, rfl, .ptr 0 0 0 0 rfl⟩, ⟨_, rfl, .same _ rfl⟩, trivial⟩ ⟨.inl ⟨0, _, rfl, by simp, rfl, hpk _ _ _⟩, .inr ⟨4, rfl, rfl⟩, trivial⟩
  · rintro ⟨i, m, c⟩ ⟨hc, hi10⟩ N hN'
    simp only at hc hN' hi10
    have hwi : 0 < (i : Int) → IntKind.i64.wrap ((i : Int) - 1) = ((i - 1 : Nat) : Int) := fun h => by rw [wrap_i64 (by omega) (by omega)]; omega
    have hnx : ∀ (S : St) (j : Nat) (c' : List Inst) (nm : Nat), 0 < i → c'.length ≤ 22 → S.get 6 = some (.int .i64 ((i - 1 : Nat) : Int)) → S.get 5 = some (.sl 4 nm 0 c'.length) → S.get 0 = some (.ptr 0 0 0) → S.get 1 = some (.int .i64 locks) → S.blk 0 = some (pkB ps j) → S.blk nm = some (.rows 4 (instRows c')) →
        (Nm.mk 1 [(nm, 1)] [] []).ok S.nx 33 = true → (Nm.mk 1 [(nm, 1)] [] []).new 0 = some 0 → (Nm.mk 1 [(nm, 1)] [] []).new nm = some 1 → N S := by
      intro S j c' nm hi hl g1 g2 g3 g4 b0 b1 hok hnew0 hnew
      exact hN' _ (i - 1, j, c') ⟨hl, by simp only; omega⟩ (by simp only; omega) (Sub.tell ⟨1, [(nm, 1)], [], []⟩ (hq 1 (by decide)) hok ⟨⟨_, g1, .same _ rfl⟩, ⟨_, g2, .sl 4 nm 1 0 _ hnew⟩, ⟨_, g3, .ptr 0 0 0 0 hnew0⟩, ⟨_, g4, .same _ rfl⟩, trivial⟩ ⟨.inl ⟨0, _, hnew0, by simp, b0, hpk _ _ _⟩, .inl ⟨nm, _, hnew, by simp, b1, lowB_same (instRows_plain _)⟩, trivial⟩)
    have hle : c.length ≤ (instRows c).length := by rw [instRows_length]; exact Nat.le_refl _
    have htk : (instRows c).take c.length = instRows c := List.take_of_length_le (by rw [instRows_length]; exact Nat.le_refl _)
    have hroom : ((c.length : Int) + ((1 : Nat) : Int)) * ((32 : Nat) : Int) ≤ 140737488355328 := by omega
    have hz : ((0 : Nat) : Int) + ((1 : Nat) : Int) = 1 := rfl
    simp only [EV, EX, hP, reduceIte, Nat.reduceEqDiff, Nat.reduceAdd, Nat.reduceSub, binA, IN]
    refine condS_d (fun h => ?_) (fun h => ?_)
    · have w1 := hwi h
      have hi : 0 < i := by omega
      simp only [EV, EX, hP, reduceIte, Nat.reduceEqDiff, Nat.reduceAdd, Nat.reduceSub, binA, IN]
      refine callW_of (hnum _ 5 (by decide) (by decide) _ _ rfl) ?_
      rintro d U ⟨rfl, rfl⟩
      generalize numV ps m 5 = v
      generalize numN ps m = m1
      simp only [EV, EX, hP, reduceIte, Nat.reduceEqDiff, Nat.reduceAdd, Nat.reduceSub, binA, IN]
      refine condS_d (fun h2 => ?_) (fun h2 => ?_)
      · simp only [EV, EX, hP, reduceIte, Nat.reduceEqDiff, Nat.reduceAdd, Nat.reduceSub, binA, IN]
        refine callW_of (hsom _ _ _ rfl) ?_
        rintro d U ⟨c2, j, hc2, rfl, rfl⟩
        simp only [EV, EX, hP, reduceIte, Nat.reduceEqDiff, Nat.reduceAdd, Nat.reduceSub, binA, IN, len_fz ty34, instRows_length]
        refine callW_of (hnum _ 3 (by decide) (by decide) _ _ rfl) ?_
        rintro d U ⟨rfl, rfl⟩
        have hv := numV_bound hps (n := j) (m := 3) (by decide)
        have w3 : IntKind.i64.wrap (1 + numV ps j 3) = 1 + numV ps j 3 := wrap_i64 (by omega) (by omega)
        have hr1 : (((1 : Nat) : Int) + (c2.length : Int)) * ((32 : Nat) : Int) ≤ 140737488355328 := by omega
        simp only [EV, EX, hP, reduceIte, Nat.reduceEqDiff, Nat.reduceAdd, Nat.reduceSub, binA, IN, MX, buildA, fillA, faddrA, load_ptr, load_fp, rowOf_eq, packA, TK.isAgg, cellsOf, cellD, boxA, allocA, storeA, putCells, Nat.reduceLeDiff, extA, w3, ty60, fillA, Option.map_some, cells_agg, List.length_cons, List.length_nil, bslA, elTI_eq ty34, setRows, List.replicate_succ, List.replicate_zero, List.getD_cons_zero, Nat.reduceLT, Nat.reduceMul, true_and, and_true, appA, ty34, rowsOf, instRows_length, hr1, List.take_succ_cons, List.take_zero, len_sl ty34]
        obtain ⟨c3, hc3⟩ : ∃ c3, c3 = (⟨8, 0, c2.length, 1 + numV ps j 3⟩ : Inst) :: c2 := ⟨_, rfl⟩
        have e1 : 1 + c2.length = c3.length := by rw [hc3, List.length_cons]; omega
        have e2 : [DV.int .i64 8, .int .i64 0, .int .i64 c2.length, .int .i64 (1 + numV ps j 3)] :: instRows c2 = instRows c3 := by rw [hc3]; rfl
        rw [e1, e2]
        have hl3 : c3.length ≤ 7 := by omega
        clear hc3 e1 e2
        have w4 : IntKind.i64.wrap ((c.length : Int) + (c3.length : Int)) = (c.length : Int) + c3.length := wrap_i64 (by omega) (by omega)
        have hr2 : ((c.length : Int) + (c3.length : Int)) * ((32 : Nat) : Int) ≤ 140737488355328 := by omega
        have hle3 : c3.length ≤ (instRows c3).length := by rw [instRows_length]; exact Nat.le_refl _
        have htk3 : (instRows c3).take c3.length = instRows c3 := List.take_of_length_le (by rw [instRows_length]; exact Nat.le_refl _)
        rw [w4]
        refine condS_d (fun h9 => ?_) (fun h9 => ?_)
        · simp only [EV, EX, hP, reduceIte, Nat.reduceEqDiff, Nat.reduceAdd, Nat.reduceSub, binA, IN, MX, buildA, fillA, faddrA, load_ptr, load_fp, rowOf_eq, packA, TK.isAgg, cellsOf, cellD, boxA, allocA, storeA, putCells, Nat.reduceLeDiff, extA, appA, ty34, elTI_eq ty34, ty60, rowsOf, hle, htk, hle3, htk3, instRows_length, hr2, w1, true_and, and_true]
          rw [← instRows_append, ← List.length_append]
          exact hnx _ (numN ps j) (c ++ c3) _ hi (by rw [List.length_append]; omega) rfl rfl rfl rfl rfl rfl rfl rfl rfl
        · simp only [EV, EX, hP, reduceIte, Nat.reduceEqDiff, Nat.reduceAdd, Nat.reduceSub, binA, IN, w1]
          exact hnx _ (numN ps j) c 1 hi hc rfl rfl rfl rfl rfl rfl rfl rfl rfl
      · simp only [EV, EX, hP, reduceIte, Nat.reduceEqDiff, Nat.reduceAdd, Nat.reduceSub, binA, IN]
        refine condS_d (fun h3 => ?_) (fun h3 => ?_)
        · simp only [EV, EX, hP, reduceIte, Nat.reduceEqDiff, Nat.reduceAdd, Nat.reduceSub, binA, IN]
          refine callW_of (hsom _ _ _ rfl) ?_
          rintro d U ⟨c2, j, hc2, rfl, rfl⟩
          simp only [EV, EX, hP, reduceIte, Nat.reduceEqDiff, Nat.reduceAdd, Nat.reduceSub, binA, IN, len_fz ty34, instRows_length]
          refine callW_of (hnum _ 3 (by decide) (by decide) _ _ rfl) ?_
          rintro d U ⟨rfl, rfl⟩
          have hr1 : (((1 : Nat) : Int) + (c2.length : Int)) * ((32 : Nat) : Int) ≤ 140737488355328 := by omega
          simp only [EV, EX, hP, reduceIte, Nat.reduceEqDiff, Nat.reduceAdd, Nat.reduceSub, binA, IN, len_fz ty34, MX, buildA, fillA, faddrA, load_ptr, load_fp, rowOf_eq, packA, TK.isAgg, cellsOf, cellD, boxA, allocA, storeA, putCells, Nat.reduceLeDiff, extA, ty60, fillA, Option.map_some, cells_agg, List.length_cons, List.length_nil, bslA, elTI_eq ty34, setRows, List.replicate_succ, List.replicate_zero, List.getD_cons_zero, Nat.reduceLT, Nat.reduceMul, true_and, and_true, appA, ty34, rowsOf, instRows_length, hr1, List.take_succ_cons, List.take_zero, len_sl ty34]
          obtain ⟨c3, hc3⟩ : ∃ c3, c3 = (⟨7, numV ps j 3, 0, c2.length⟩ : Inst) :: c2 := ⟨_, rfl⟩
          have e1 : 1 + c2.length = c3.length := by rw [hc3, List.length_cons]; omega
          have e2 : [DV.int .i64 7, .int .i64 (numV ps j 3), .int .i64 0, .int .i64 c2.length] :: instRows c2 = instRows c3 := by rw [hc3]; rfl
          rw [e1, e2]
          have hl3 : c3.length ≤ 7 := by omega
          clear hc3 e1 e2
          have w4 : IntKind.i64.wrap ((c.length : Int) + (c3.length : Int)) = (c.length : Int) + c3.length := wrap_i64 (by omega) (by omega)
          have hr2 : ((c.length : Int) + (c3.length : Int)) * ((32 : Nat) : Int) ≤ 140737488355328 := by omega
          have hle3 : c3.length ≤ (instRows c3).length := by rw [instRows_length]; exact Nat.le_refl _
          have htk3 : (instRows c3).take c3.length = instRows c3 := List.take_of_length_le (by rw [instRows_length]; exact Nat.le_refl _)
          rw [w4]
          refine condS_d (fun h9 => ?_) (fun h9 => ?_)
          · simp only [EV, EX, hP, reduceIte, Nat.reduceEqDiff, Nat.reduceAdd, Nat.reduceSub, binA, IN, MX, buildA, fillA, faddrA, load_ptr, load_fp, rowOf_eq, packA, TK.isAgg, cellsOf, cellD, boxA, allocA, storeA, putCells, Nat.reduceLeDiff, extA, appA, ty34, elTI_eq ty34, ty60, rowsOf, hle, htk, hle3, htk3, instRows_length, hr2, w1, true_and, and_true]
            rw [← instRows_append, ← List.length_append]
            exact hnx _ (numN ps j) (c ++ c3) _ hi (by rw [List.length_append]; omega) rfl rfl rfl rfl rfl rfl rfl rfl rfl
          · simp only [EV, EX, hP, reduceIte, Nat.reduceEqDiff, Nat.reduceAdd, Nat.reduceSub, binA, IN, w1]
            exact hnx _ (numN ps j) c 1 hi hc rfl rfl rfl rfl rfl rfl rfl rfl rfl
        · simp only [EV, EX, hP, reduceIte, Nat.reduceEqDiff, Nat.reduceAdd, Nat.reduceSub, binA, IN]
          refine condS_d (fun h4 => ?_) (fun h4 => ?_)
          · simp only [EV, EX, hP, reduceIte, Nat.reduceEqDiff, Nat.reduceAdd, Nat.reduceSub, binA, IN, len_fz ty34, MX, buildA, fillA, faddrA, load_ptr, load_fp, rowOf_eq, packA, TK.isAgg, cellsOf, cellD, boxA, allocA, storeA, putCells, Nat.reduceLeDiff, extA, ty60, fillA, Option.map_some, cells_agg, List.length_cons, List.length_nil, bslA, elTI_eq ty34, setRows, List.replicate_succ, List.replicate_zero, List.getD_cons_zero, Nat.reduceLT, Nat.reduceMul, true_and, and_true, appA, ty34, rowsOf, instRows_length, len_sl ty34]
            have w4 : IntKind.i64.wrap ((c.length : Int) + ((1 : Nat) : Int)) = (c.length : Int) + 1 := wrap_i64 (by omega) (by omega)
            try rw [w4]
            refine condS_d (fun h9 => ?_) (fun h9 => ?_)
            · simp only [EV, EX, hP, reduceIte, Nat.reduceEqDiff, Nat.reduceAdd, Nat.reduceSub, binA, IN, MX, buildA, fillA, faddrA, load_ptr, load_fp, rowOf_eq, packA, TK.isAgg, cellsOf, cellD, boxA, allocA, storeA, putCells, Nat.reduceLeDiff, extA, appA, ty34, elTI_eq ty34, ty60, rowsOf, hle, htk, instRows_length, List.length_cons, List.length_nil, List.take_succ_cons, List.take_zero, Nat.zero_add, Nat.le_refl, hroom, w1, true_and, and_true]
              have e1 : c.length + 1 = (c ++ [(⟨11, 0, 0, 0⟩ : Inst)]).length := by simp
              have e2 : instRows c ++ [[.int .i64 11, .int .i64 0, .int .i64 0, .int .i64 0]] = instRows (c ++ [⟨11, 0, 0, 0⟩]) := by rw [instRows_append]; rfl
              rw [e1, e2]
              exact hnx _ m1 (c ++ [⟨11, 0, 0, 0⟩]) _ hi (by simp; omega) rfl rfl rfl rfl rfl rfl rfl rfl rfl
            · simp only [EV, EX, hP, reduceIte, Nat.reduceEqDiff, Nat.reduceAdd, Nat.reduceSub, binA, IN, w1]
              exact hnx _ m1 c 1 hi hc rfl rfl rfl rfl rfl rfl rfl rfl rfl
          · simp only [EV, EX, hP, reduceIte, Nat.reduceEqDiff, Nat.reduceAdd, Nat.reduceSub, binA, IN]
            refine callW_of (hsom _ _ _ rfl) ?_
            rintro d U ⟨c3, j, hl3, rfl, rfl⟩
            simp only [EV, EX, hP, reduceIte, Nat.reduceEqDiff, Nat.reduceAdd, Nat.reduceSub, binA, IN, len_fz ty34, instRows_length, len_sl ty34]
            have w4 : IntKind.i64.wrap ((c.length : Int) + (c3.length : Int)) = (c.length : Int) + c3.length := wrap_i64 (by omega) (by omega)
            have hr2 : ((c.length : Int) + (c3.length : Int)) * ((32 : Nat) : Int) ≤ 140737488355328 := by omega
            have hle3 : c3.length ≤ (instRows c3).length := by rw [instRows_length]; exact Nat.le_refl _
            have htk3 : (instRows c3).take c3.length = instRows c3 := List.take_of_length_le (by rw [instRows_length]; exact Nat.le_refl _)
            rw [w4]
            refine condS_d (fun h9 => ?_) (fun h9 => ?_)
            · simp only [EV, EX, hP, reduceIte, Nat.reduceEqDiff, Nat.reduceAdd, Nat.reduceSub, binA, IN, MX, buildA, fillA, faddrA, load_ptr, load_fp, rowOf_eq, packA, TK.isAgg, cellsOf, cellD, boxA, allocA, storeA, putCells, Nat.reduceLeDiff, extA, appA, ty34, elTI_eq ty34, ty60, rowsOf, hle, htk, hle3, htk3, instRows_length, hr2, w1, true_and, and_true]
              rw [← instRows_append, ← List.length_append]
              exact hnx _ j (c ++ c3) _ hi (by rw [List.length_append]; omega) rfl rfl rfl rfl rfl rfl rfl rfl rfl
            · simp only [EV, EX, hP, reduceIte, Nat.reduceEqDiff, Nat.reduceAdd, Nat.reduceSub, binA, IN, w1]
              exact hnx _ j c 1 hi hc rfl rfl rfl rfl rfl rfl rfl rfl rfl
    · simp only [EV, EX, hP, reduceIte, Nat.reduceEqDiff, Nat.reduceAdd, Nat.reduceSub, binA, IN, MX, buildA, fillA, faddrA, load_ptr, load_fp, rowOf_eq, packA, TK.isAgg, cellsOf, cellD, boxA, allocA, storeA, putCells, Nat.reduceLeDiff, extA, ty60, fillA, Option.map_some, cells_agg, List.length_cons, List.length_nil, bslA, elTI_eq ty34, setRows, List.replicate_succ, List.replicate_zero, List.getD_cons_zero, Nat.reduceLT, Nat.reduceMul, true_and, and_true, appA, ty34, rowsOf, instRows_length, hle, htk, hroom]
      have e1 : c.length + 1 = (c ++ [(⟨0, 0, 0, 0⟩ : Inst)]).length := by simp
      have e2 : instRows c ++ [[.int .i64 0, .int .i64 0, .int .i64 0, .int .i64 0]] = instRows (c ++ [⟨0, 0, 0, 0⟩]) := by rw [instRows_append]; rfl
      rw [e1, e2]
      refine hQ _ ⟨⟨1, [], [], [113]⟩, [.sl 4 113 0 (c ++ [(⟨0, 0, 0, 0⟩ : Inst)]).length], [.fz 4 (instRows (c ++ [⟨0, 0, 0, 0⟩]))], [(0, some (pkB ps m))], [(0, some (pkB ps m))], rfl, Nat.le_refl _, rfl, .cons _ _ _ _ (Tl.frzAll (by simp) rfl (by rw [instRows_length]) (instRows_plain _) (instRows_rows _)) .nil, ⟨.inl ⟨0, _, rfl, by simp, rfl, hpk _ _ _⟩, trivial⟩, lkO_over, c ++ [⟨0, 0, 0, 0⟩], m, by simp; omega, rfl, rfl⟩
end Go.Fv
/- CONTRACTS: choices read off numbers: a task. -/
namespace Go.Fv
open Go.Proofs

theorem call_code (ps : List Int) (hps : bytes ps) (n : Nat) (locks : Int) (h0 : 0 ≤ locks) (hlk : locks ≤ 100) (nm nb : Nat) (h : Nat → Option Blk) (hb : h nm = some (pkB ps n)) :
    CallR Try.prog (.fn 45 [] []) [.ptr nm 0 0, .int .i64 locks] h nb fun d U => ∃ (c : List Inst) (k : Nat), c.length ≤ 24 ∧ d = .fz 4 (instRows c) ∧ U = [(nm, some (pkB ps k))] := by
  have hpl : ∀ n, renB (sg [nm] nb) (pkB ps n) = some (pkB ps n) := fun n => by simp [pkB, renB, renR, renL, ren, plainR_ren, u8Rows_plain]
  refine (s_code ps hps n locks h0 hlk).callR [nm] nb rfl (by simp) rfl (by simp [renL, ren, sg]) ⟨⟨_, _, rfl, hpl n, hb⟩, trivial⟩ ?_
  rintro d U ⟨c, k, hc, rfl, rfl⟩
  exact ⟨.fz 4 (instRows c), _, plain_ren _ (by simp only [plain, instRows_plain]), by simp only [renU, renOB, hpl]; rfl, c, k, hc, rfl, rfl⟩

/-- A task that is made of numbers. -/
def Tk.made (t : Tk) (rank : Int) : Prop := t.rank = rank ∧ t.fit ∧ 20 ≤ t.period ∧ t.period ≤ 130 ∧ t.period - 9 ≤ t.fin ∧ t.fin ≤ t.period

set_option maxRecDepth 100000 in
theorem s_ptask (ps : List Int) (hps : bytes ps) (n : Nat) (rank locks : Int) (h0 : 0 ≤ locks) (hlk : locks ≤ 100) : Spec Try.prog 24 [.ptr 0 0 0, .int .i64 rank, .int .i64 locks] 1 [(0, some (pkB ps n))]
    fun d U => ∃ (t : Tk) (k : Nat), t.made rank ∧ d = .agg t.row ∧ U = [(0, some (pkB ps k))] := by
  refine Spec.walkU ok24 fun C Q hP hN hQ => ?_
  unfold c24
  have hnum : ∀ (n : Nat) (m : Int), 1 ≤ m → m ≤ 1000000 → ∀ (nb : Nat) (h : Nat → Option Blk), h 0 = some (pkB ps n) → CallR C.P (.fn 32 [] []) [.ptr 0 0 0, .int .i64 m] h nb fun d U => d = .int .i64 (numV ps n m) ∧ U = [(0, some (pkB ps (numN ps n)))] := fun n m h1 h2 nb h hb => by
    rw [hP]; exact call_num ps hps n m h1 h2 0 nb h hb
  have hnumF : ∀ (n : Nat) (m : Int), 1 ≤ m → m ≤ 1000000 → ∀ (nb : Nat) (h : Nat → Option Blk), h 0 = some (pkB ps n) → CallFx C.P (.fn 32 [] []) [.ptr 0 0 0, .int .i64 m] h nb (.int .i64 (numV ps n m)) [(0, some (pkB ps (numN ps n)))] [0] := fun n m h1 h2 nb h hb =>
    callFx_of fun h3 hh => hnum n m h1 h2 nb h3 (by rw [hh 0 (by simp)]; exact hb)
  have hcod : ∀ (n : Nat) (lk : Int), 0 ≤ lk → lk ≤ 100 → ∀ (nb : Nat) (h : Nat → Option Blk), h 0 = some (pkB ps n) → CallR C.P (.fn 45 [] []) [.ptr 0 0 0, .int .i64 lk] h nb fun d U => ∃ (c : List Inst) (k : Nat), c.length ≤ 24 ∧ d = .fz 4 (instRows c) ∧ U = [(0, some (pkB ps k))] := fun n lk h1 h2 nb h hb => by
    rw [hP]; exact call_code ps hps n lk h1 h2 0 nb h hb
  have hpk : ∀ (M : Nm) (H : Nat → Option Blk) k, TlB M H (pkB ps k) (pkB ps k) := fun M H k => lowB_same (by simp only [plainR, plainL, plain, u8Rows_plain, Bool.and_self])
  simp only [EV, EX, hP, reduceIte, Nat.reduceEqDiff, Nat.reduceAdd, Nat.reduceSub, binA, IN, MX, buildA, fillA, faddrA, load_ptr, load_fp, rowOf_eq, packA, TK.isAgg, cellsOf, cellD, boxA, allocA, storeA, putCells, Nat.reduceLeDiff, extA, ty36]
  refine callW_of (hcod _ locks h0 hlk _ _ rfl) ?_
  rintro d U ⟨c, k1, hc, rfl, rfl⟩
  simp only [EV, EX, hP, reduceIte, Nat.reduceEqDiff, Nat.reduceAdd, Nat.reduceSub, binA, IN, MX, buildA, fillA, faddrA, load_ptr, load_fp, rowOf_eq, packA, TK.isAgg, cellsOf, cellD, boxA, allocA, storeA, putCells, Nat.reduceLeDiff, extA, ty36, fillA, Option.map_some, cells_agg, List.length_cons, List.length_nil]
  refine callW_of (hnum _ 12 (by decide) (by decide) _ _ rfl) ?_
  rintro d U ⟨rfl, rfl⟩
  have hv := numV_bound hps (n := k1) (m := 12) (by decide)
  have w1 : IntKind.i64.wrap (10 * numV ps k1 12) = 10 * numV ps k1 12 := wrap_i64 (by omega) (by omega)
  obtain ⟨p, hp⟩ : ∃ p, p = 20 + 10 * numV ps k1 12 := ⟨_, rfl⟩
  have w2 : IntKind.i64.wrap p = p := wrap_i64 (by omega) (by omega)
  simp only [EV, EX, hP, reduceIte, Nat.reduceEqDiff, Nat.reduceAdd, Nat.reduceSub, binA, IN, DR, DX, Nat.reduceMul, keysU, MX, buildA, fillA, faddrA, load_ptr, load_fp, rowOf_eq, packA, TK.isAgg, cellsOf, cellD, boxA, allocA, storeA, putCells, Nat.reduceLeDiff, extA, w1, ← hp, w2, ty36, ty2, cells_int, List.length_cons, List.length_nil]
  have hv2 := numV_bound hps (n := numN ps k1) (m := 10) (by decide)
  have w3 : IntKind.i64.wrap (p - numV ps (numN ps k1) 10) = p - numV ps (numN ps k1) 10 := wrap_i64 (by omega) (by omega)
  refine ⟨_, _, _, [(0, some (pkB ps (numN ps (numN ps k1))))], [0], rfl, rfl, hnumF (numN ps k1) 10 (by decide) (by decide) _ _ rfl, ?_⟩
  simp only [EV, EX, hP, reduceIte, Nat.reduceEqDiff, Nat.reduceAdd, Nat.reduceSub, binA, IN, DR, DX, Nat.reduceMul, keysU, MX, buildA, fillA, faddrA, load_ptr, load_fp, rowOf_eq, packA, TK.isAgg, cellsOf, cellD, boxA, allocA, storeA, putCells, Nat.reduceLeDiff, extA, w2, w3, ty36, ty2, cells_int, List.length_cons, List.length_nil, drF_eq]
  refine ⟨by kernel_rfl, ?_⟩
  generalize numN ps (numN ps k1) = k2
  generalize hf : p - numV ps (numN ps k1) 10 = f at *
  have fin : ∀ (S : St) (w o : DV) (wl ol : List Inst) (k : Nat) (M : Nm), resD (tiOf C.P) S [.cell 6 36] = some [.agg [.int .i64 rank, .int .i64 p, .int .i64 f, .fz 4 (instRows c), w, o]] → Tl M S.blk w (.fz 4 (instRows wl)) → Tl M S.blk o (.fz 4 (instRows ol)) → wl.length ≤ 24 → ol.length ≤ 24 →
      S.blk 0 = some (pkB ps k) → 1 ≤ M.q → M.ok S.nx 17 = true → M.new 0 = some 0 → ¬ 0 ∈ M.Z → Q S := by
    intro S w o wl ol k M hg hw ho hwl hol hb hq hok hnew hz
    refine hQ S ⟨M, [.agg [.int .i64 rank, .int .i64 p, .int .i64 f, .fz 4 (instRows c), w, o]], [.agg (Tk.row ⟨rank, p, f, c, wl, ol⟩)], [(0, some (pkB ps k))], [(0, some (pkB ps k))], hg, hq, hok, .cons _ _ _ _ (.agg _ _ rfl ?_) .nil, ⟨.inl ⟨0, _, hnew, hz, hb, hpk _ _ _⟩, trivial⟩, lkO_over, ⟨rank, p, f, c, wl, ol⟩, k, ⟨rfl, ⟨?_, ?_, ?_⟩, ?_, ?_, ?_, ?_⟩, rfl, rfl⟩
    · intro j x y hx hy
      match j with
      | 0 => cases hx; cases hy; exact .same _ rfl
      | 1 => cases hx; cases hy; exact .same _ rfl
      | 2 => cases hx; cases hy; exact .same _ rfl
      | 3 => cases hx; cases hy; exact .same _ (by simp only [plain, instRows_plain])
      | 4 => cases hx; cases hy; exact hw
      | 5 => cases hx; cases hy; exact ho
      | j + 6 => simp at hx
    all_goals (simp only; omega)
  refine callW_of (hnum _ 3 (by decide) (by decide) _ _ rfl) ?_
  rintro d U ⟨rfl, rfl⟩
  simp only [EV, EX, hP, reduceIte, Nat.reduceEqDiff, Nat.reduceAdd, Nat.reduceSub, binA, IN]
  have h01 : ∀ k, numV ps k 2 = 0 ∨ numV ps k 2 = 1 := fun k => by have := numV_bound hps (n := k) (m := 2) (by decide); omega
  refine condS_d (fun h1 => ?_) (fun h1 => ?_)
  · simp only [EV, EX, hP, reduceIte, Nat.reduceEqDiff, Nat.reduceAdd, Nat.reduceSub, binA, IN, MX, buildA, fillA, faddrA, load_ptr, load_fp, rowOf_eq, packA, TK.isAgg, cellsOf, cellD, boxA, allocA, storeA, putCells, Nat.reduceLeDiff, extA, ty60, fillA, Option.map_some, cells_agg, List.length_cons, List.length_nil, bslA, elTI_eq ty34, setRows, List.replicate_succ, List.replicate_zero, List.getD_cons_zero, List.getD_cons_succ, Nat.reduceLT, Nat.reduceMul, true_and, and_true]
    refine callW_of (hnum _ 2 (by decide) (by decide) _ _ rfl) ?_
    rintro d U ⟨rfl, rfl⟩
    rcases h01 (numN ps k2) with e | e <;> rw [e] <;> simp only [EV, EX, hP, reduceIte, Nat.reduceEqDiff, Nat.reduceAdd, Nat.reduceSub, binA, IN, MX, buildA, fillA, faddrA, load_ptr, load_fp, rowOf_eq, packA, TK.isAgg, cellsOf, cellD, boxA, allocA, storeA, putCells, Nat.reduceLeDiff, extA, sliceA, elSize_eq ty34 ty60, ty34, ty36, bnd, Int.reduceLE, Int.le_refl, Int.toNat_zero, Int.toNat_one, Int.reduceToNat, Nat.reduceLeDiff, Nat.le_refl, Nat.zero_le, Nat.reduceSub, and_self, if_true, Int.toNat_natCast, Option.isSome_none, Bool.false_eq_true, false_implies, and_true, true_and, cells_agg, List.length_cons, List.length_nil]
    · refine callW_of (hnum _ 3 (by decide) (by decide) _ _ rfl) ?_
      rintro d U ⟨rfl, rfl⟩
      simp only [EV, EX, hP, reduceIte, Nat.reduceEqDiff, Nat.reduceAdd, Nat.reduceSub, binA, IN]
      refine condS_d (fun h2 => ?_) (fun h2 => ?_)
      · simp only [EV, EX, hP, reduceIte, Nat.reduceEqDiff, Nat.reduceAdd, Nat.reduceSub, binA, IN]
        refine callW_of (hcod _ 0 (by decide) (by decide) _ _ rfl) ?_
        rintro d U ⟨c2, k3, hc2, rfl, rfl⟩
        simp only [EV, EX, hP, reduceIte, Nat.reduceEqDiff, Nat.reduceAdd, Nat.reduceSub, binA, IN, MX, buildA, fillA, faddrA, load_ptr, load_fp, rowOf_eq, packA, TK.isAgg, cellsOf, cellD, boxA, allocA, storeA, putCells, Nat.reduceLeDiff, extA, ty36, ty34, cells_agg, cells_int, List.length_cons, List.length_nil]
        exact fin _ _ _ [⟨1, 0, 0, 99⟩, ⟨0, 0, 0, 0⟩] c2 _ ⟨1, [], [], [417]⟩ (by simp only [resD, hP, EV, EX, hP, reduceIte, Nat.reduceEqDiff, Nat.reduceAdd, Nat.reduceSub, MX, buildA, fillA, faddrA, load_ptr, load_fp, rowOf_eq, packA, TK.isAgg, cellsOf, cellD, boxA, allocA, storeA, putCells, Nat.reduceLeDiff, extA, ty36]; rfl) (.freeze (rs := [[.int .i64 1, .int .i64 0, .int .i64 0, .int .i64 99], [.int .i64 0, .int .i64 0, .int .i64 0, .int .i64 0]]) (by simp) rfl (by decide) rfl rfl (by simp [instRows, Inst.row])) (.same _ (by simp only [plain, instRows_plain])) (by simp) hc2 rfl (Nat.le_refl _) rfl rfl (by simp)
      · simp only [EV, EX, hP, reduceIte, Nat.reduceEqDiff, Nat.reduceAdd, Nat.reduceSub, binA, IN, MX, buildA, fillA, faddrA, load_ptr, load_fp, rowOf_eq, packA, TK.isAgg, cellsOf, cellD, boxA, allocA, storeA, putCells, Nat.reduceLeDiff, extA, ty36, cells_agg, List.length_cons, List.length_nil]
        exact fin _ _ _ [⟨1, 0, 0, 99⟩, ⟨0, 0, 0, 0⟩] [] _ ⟨1, [], [], [417]⟩ (by simp only [resD, hP, EV, EX, hP, reduceIte, Nat.reduceEqDiff, Nat.reduceAdd, Nat.reduceSub, MX, buildA, fillA, faddrA, load_ptr, load_fp, rowOf_eq, packA, TK.isAgg, cellsOf, cellD, boxA, allocA, storeA, putCells, Nat.reduceLeDiff, extA, ty36]; rfl) (.freeze (rs := [[.int .i64 1, .int .i64 0, .int .i64 0, .int .i64 99], [.int .i64 0, .int .i64 0, .int .i64 0, .int .i64 0]]) (by simp) rfl (by decide) rfl rfl (by simp [instRows, Inst.row])) (.nf 4) (by simp) (by simp) rfl (Nat.le_refl _) rfl rfl (by simp)
    · refine callW_of (hnum _ 3 (by decide) (by decide) _ _ rfl) ?_
      rintro d U ⟨rfl, rfl⟩
      simp only [EV, EX, hP, reduceIte, Nat.reduceEqDiff, Nat.reduceAdd, Nat.reduceSub, binA, IN]
      refine condS_d (fun h2 => ?_) (fun h2 => ?_)
      · simp only [EV, EX, hP, reduceIte, Nat.reduceEqDiff, Nat.reduceAdd, Nat.reduceSub, binA, IN]
        refine callW_of (hcod _ 0 (by decide) (by decide) _ _ rfl) ?_
        rintro d U ⟨c2, k3, hc2, rfl, rfl⟩
        simp only [EV, EX, hP, reduceIte, Nat.reduceEqDiff, Nat.reduceAdd, Nat.reduceSub, binA, IN, MX, buildA, fillA, faddrA, load_ptr, load_fp, rowOf_eq, packA, TK.isAgg, cellsOf, cellD, boxA, allocA, storeA, putCells, Nat.reduceLeDiff, extA, ty36, ty34, cells_agg, cells_int, List.length_cons, List.length_nil]
        exact fin _ _ _ [⟨0, 0, 0, 0⟩] c2 _ ⟨1, [], [], [417]⟩ (by simp only [resD, hP, EV, EX, hP, reduceIte, Nat.reduceEqDiff, Nat.reduceAdd, Nat.reduceSub, MX, buildA, fillA, faddrA, load_ptr, load_fp, rowOf_eq, packA, TK.isAgg, cellsOf, cellD, boxA, allocA, storeA, putCells, Nat.reduceLeDiff, extA, ty36]; rfl) (.freeze (rs := [[.int .i64 1, .int .i64 0, .int .i64 0, .int .i64 99], [.int .i64 0, .int .i64 0, .int .i64 0, .int .i64 0]]) (by simp) rfl (by decide) rfl rfl (by simp [instRows, Inst.row])) (.same _ (by simp only [plain, instRows_plain])) (by simp) hc2 rfl (Nat.le_refl _) rfl rfl (by simp)
      · simp only [EV, EX, hP, reduceIte, Nat.reduceEqDiff, Nat.reduceAdd, Nat.reduceSub, binA, IN, MX, buildA, fillA, faddrA, load_ptr, load_fp, rowOf_eq, packA, TK.isAgg, cellsOf, cellD, boxA, allocA, storeA, putCells, Nat.reduceLeDiff, extA, ty36, cells_agg, List.length_cons, List.length_nil]
        exact fin _ _ _ [⟨0, 0, 0, 0⟩] [] _ ⟨1, [], [], [417]⟩ (by simp only [resD, hP, EV, EX, hP, reduceIte, Nat.reduceEqDiff, Nat.reduceAdd, Nat.reduceSub, MX, buildA, fillA, faddrA, load_ptr, load_fp, rowOf_eq, packA, TK.isAgg, cellsOf, cellD, boxA, allocA, storeA, putCells, Nat.reduceLeDiff, extA, ty36]; rfl) (.freeze (rs := [[.int .i64 1, .int .i64 0, .int .i64 0, .int .i64 99], [.int .i64 0, .int .i64 0, .int .i64 0, .int .i64 0]]) (by simp) rfl (by decide) rfl rfl (by simp [instRows, Inst.row])) (.nf 4) (by simp) (by simp) rfl (Nat.le_refl _) rfl rfl (by simp)
  · simp only [EV, EX, hP, reduceIte, Nat.reduceEqDiff, Nat.reduceAdd, Nat.reduceSub, binA, IN]
    refine callW_of (hnum _ 3 (by decide) (by decide) _ _ rfl) ?_
    rintro d U ⟨rfl, rfl⟩
    simp only [EV, EX, hP, reduceIte, Nat.reduceEqDiff, Nat.reduceAdd, Nat.reduceSub, binA, IN]
    refine condS_d (fun h2 => ?_) (fun h2 => ?_)
    · simp only [EV, EX, hP, reduceIte, Nat.reduceEqDiff, Nat.reduceAdd, Nat.reduceSub, binA, IN]
      refine callW_of (hcod _ 0 (by decide) (by decide) _ _ rfl) ?_
      rintro d U ⟨c2, k3, hc2, rfl, rfl⟩
      simp only [EV, EX, hP, reduceIte, Nat.reduceEqDiff, Nat.reduceAdd, Nat.reduceSub, binA, IN, MX, buildA, fillA, faddrA, load_ptr, load_fp, rowOf_eq, packA, TK.isAgg, cellsOf, cellD, boxA, allocA, storeA, putCells, Nat.reduceLeDiff, extA, ty36, ty34, cells_agg, cells_int, List.length_cons, List.length_nil]
      exact fin _ _ _ [] c2 _ ⟨1, [], [], []⟩ (by simp only [resD, hP, EV, EX, hP, reduceIte, Nat.reduceEqDiff, Nat.reduceAdd, Nat.reduceSub, MX, buildA, fillA, faddrA, load_ptr, load_fp, rowOf_eq, packA, TK.isAgg, cellsOf, cellD, boxA, allocA, storeA, putCells, Nat.reduceLeDiff, extA, ty36]; rfl) (.nf 4) (.same _ (by simp only [plain, instRows_plain])) (by simp) hc2 rfl (Nat.le_refl _) rfl rfl (by simp)
    · simp only [EV, EX, hP, reduceIte, Nat.reduceEqDiff, Nat.reduceAdd, Nat.reduceSub, binA, IN, MX, buildA, fillA, faddrA, load_ptr, load_fp, rowOf_eq, packA, TK.isAgg, cellsOf, cellD, boxA, allocA, storeA, putCells, Nat.reduceLeDiff, extA, ty36, cells_agg, List.length_cons, List.length_nil]
      exact fin _ _ _ [] [] _ ⟨1, [], [], []⟩ (by simp only [resD, hP, EV, EX, hP, reduceIte, Nat.reduceEqDiff, Nat.reduceAdd, Nat.reduceSub, MX, buildA, fillA, faddrA, load_ptr, load_fp, rowOf_eq, packA, TK.isAgg, cellsOf, cellD, boxA, allocA, storeA, putCells, Nat.reduceLeDiff, extA, ty36]; rfl) (.nf 4) (.nf 4) (by simp) (by simp) rfl (Nat.le_refl _) rfl rfl (by simp)
end Go.Fv
/- CONTRACTS: choices read off numbers: a row of tasks. -/
namespace Go.Fv
open Go.Proofs

theorem call_ptask (ps : List Int) (hps : bytes ps) (n : Nat) (rank locks : Int) (h0 : 0 ≤ locks) (hlk : locks ≤ 100) (nm nb : Nat) (h : Nat → Option Blk) (hb : h nm = some (pkB ps n)) :
    CallR Try.prog (.fn 24 [] []) [.ptr nm 0 0, .int .i64 rank, .int .i64 locks] h nb fun d U => ∃ (t : Tk) (k : Nat), t.made rank ∧ d = .agg t.row ∧ U = [(nm, some (pkB ps k))] := by
  have hpl : ∀ n, renB (sg [nm] nb) (pkB ps n) = some (pkB ps n) := fun n => by simp [pkB, renB, renR, renL, ren, plainR_ren, u8Rows_plain]
  refine (s_ptask ps hps n rank locks h0 hlk).callR [nm] nb rfl (by simp) rfl (by simp [renL, ren, sg]) ⟨⟨_, _, rfl, hpl n, hb⟩, trivial⟩ ?_
  rintro d U ⟨t, k, ht, rfl, rfl⟩
  exact ⟨.agg t.row, _, plain_ren _ (by simp only [plain, Tk.row_plain]), by simp only [renU, renOB, hpl]; rfl, t, k, ht, rfl, rfl⟩

/-- A row that is made of numbers. -/
def madeRow (l : List Tk) : Prop := ∀ (k : Nat) (h : k < l.length), ∃ r : Int, 3 * (k : Int) ≤ r ∧ r ≤ 3 * k + 2 ∧ l[k].made r ∧ mayT l[k] = 0
theorem madeRow_snoc {l : List Tk} {t : Tk} {r : Int} (h : madeRow l) (h1 : 3 * (l.length : Int) ≤ r) (h2 : r ≤ 3 * l.length + 2) (ht : t.made r) (hm : mayT t = 0) : madeRow (l ++ [t]) := by
  intro k hk
  rw [List.length_append, List.length_singleton] at hk
  by_cases e : k < l.length
  · rw [List.getElem_append_left e]; exact h k e
  · have : k = l.length := by omega
    subst this
    rw [List.getElem_concat_length rfl]
    exact ⟨r, h1, h2, ht, hm⟩

theorem tkRows_append (a b : List Tk) : tkRows (a ++ b) = tkRows a ++ tkRows b := by simp [tkRows]
theorem tkRows_rows (l : List Tk) : ∀ r ∈ tkRows l, r.length = 6 := by intro r hr; obtain ⟨x, _, rfl⟩ := List.mem_map.1 hr; rfl

set_option maxRecDepth 100000 in
theorem s_row16 (ps : List Int) (hps : bytes ps) (most : Int) (hm1 : 1 ≤ most) (hm2 : most ≤ 20) : Spec Try.prog 14 [.fz 1 (u8Rows ps), .int .i64 most] 0 []
    fun d U => ∃ l : List Tk, (l.length : Int) ≤ most ∧ madeRow l ∧ d = .fz 6 (tkRows l) ∧ U = [] := by
  refine Spec.walkU ok14 fun C Q hP hN hQ => ?_
  unfold c14
  have hq : ∀ q, ∀ n, C.N0 n → n < q := fun q n hn => absurd (hN n hn) (by omega)
  have hnum : ∀ (nm n : Nat) (m : Int), 1 ≤ m → m ≤ 1000000 → ∀ (nb : Nat) (h : Nat → Option Blk), h nm = some (pkB ps n) → CallR C.P (.fn 32 [] []) [.ptr nm 0 0, .int .i64 m] h nb fun d U => d = .int .i64 (numV ps n m) ∧ U = [(nm, some (pkB ps (numN ps n)))] := fun nm n m h1 h2 nb h hb => by
    rw [hP]; exact call_num ps hps n m h1 h2 nm nb h hb
  have htsk : ∀ (n : Nat) (rank lk : Int), 0 ≤ lk → lk ≤ 100 → ∀ (nb : Nat) (h : Nat → Option Blk), h 0 = some (pkB ps n) → CallR C.P (.fn 24 [] []) [.ptr 0 0 0, .int .i64 rank, .int .i64 lk] h nb fun d U => ∃ (t : Tk) (k : Nat), t.made rank ∧ d = .agg t.row ∧ U = [(0, some (pkB ps k))] := fun n rank lk h1 h2 nb h hb => by
    rw [hP]; exact call_ptask ps hps n rank lk h1 h2 0 nb h hb
  have hpk : ∀ (M : Nm) (H : Nat → Option Blk) k, TlB M H (pkB ps k) (pkB ps k) := fun M H k => lowB_same (by simp only [plainR, plainL, plain, u8Rows_plain, Bool.and_self])
  have hmade : ∀ (nb : Nat) (h : Nat → Option Blk), CallR C.P (.fn 23 [] []) [.fz 1 (u8Rows ps)] h nb fun d U => d = .ptr nb 0 0 ∧ U = [(nb, some (pkB ps 0))] := fun nb h => by rw [hP]; exact call_made ps nb h
  simp only [EV, EX, hP, reduceIte, Nat.reduceEqDiff, Nat.reduceAdd, Nat.reduceSub, binA, IN]
  refine callW_of (hmade _ _) ?_
  rintro d U ⟨rfl, rfl⟩
  simp only [EV, EX, hP, reduceIte, Nat.reduceEqDiff, Nat.reduceAdd, Nat.reduceSub, binA, IN]
  refine callW_of (hnum _ _ 4 (by decide) (by decide) _ _ rfl) ?_
  rintro d U ⟨rfl, rfl⟩
  have hlk := numV_bound hps (n := 0) (m := 4) (by decide)
  generalize numV ps 0 4 = locks at *
  simp only [EV, EX, hP, reduceIte, Nat.reduceEqDiff, Nat.reduceAdd, Nat.reduceSub, binA, IN]
  refine callW_of (hnum _ _ most (by omega) (by omega) _ _ rfl) ?_
  rintro d U ⟨rfl, rfl⟩
  have hv2 := numV_bound hps (n := numN ps 0) (m := most) (by omega)
  obtain ⟨i0, hi0⟩ : ∃ i0 : Nat, numV ps (numN ps 0) most + 1 = (i0 : Int) := ⟨(numV ps (numN ps 0) most + 1).toNat, by omega⟩
  have w0 : IntKind.i64.wrap (i0 : Int) = i0 := wrap_i64 (by omega) (by omega)
  simp only [EV, EX, hP, reduceIte, Nat.reduceEqDiff, Nat.reduceAdd, Nat.reduceSub, binA, IN, hi0, w0]
  refine LoopW.by (fun (x : Nat × Nat × List Tk) => ⟨[(8, some (.int .i64 (x.1 : Nat))), (7, some (.int .i64 locks)), (6, some (.sl 6 1 0 x.2.2.length)), (5, some (.ptr 0 0 0))], [(0, some (pkB ps x.2.1)), (1, some (.rows 6 (tkRows x.2.2)))], 32⟩)
    (fun x => (x.2.2.length : Int) + x.1 ≤ most ∧ madeRow x.2.2) (fun x => x.1) (i0, numN ps (numN ps 0), []) ⟨by simp only [List.length_nil]; omega, fun k h => absurd h (by simp)⟩ ?_ ?_
  · exact Sub.tell ⟨0, [(32, 0)], [(1, 6)], []⟩ (hq 0) rfl ⟨⟨_, rfl, .same _ rfl⟩, ⟨_, rfl, .same _ rfl⟩, ⟨_, rfl, .own 6 1 rfl⟩, ⟨_, rfl, .ptr 32 0 0 0 rfl⟩, trivial⟩ ⟨.inl ⟨32, _, rfl, by simp, rfl, hpk _ _ _⟩, .inr ⟨6, rfl, rfl⟩, trivial⟩
  · rintro ⟨i, m, l⟩ ⟨hc, hml⟩ N hN'
    simp only at hc hN' hml
    have hwi : 0 < (i : Int) → IntKind.i64.wrap ((i : Int) - 1) = ((i - 1 : Nat) : Int) := fun h => by rw [wrap_i64 (by omega) (by omega)]; omega
    have hnx : ∀ (S : St) (j : Nat) (c' : List Tk) (nm : Nat), 0 < i → c'.length ≤ l.length + 1 → madeRow c' → S.get 8 = some (.int .i64 ((i - 1 : Nat) : Int)) → S.get 7 = some (.int .i64 locks) → S.get 6 = some (.sl 6 nm 0 c'.length) → S.get 5 = some (.ptr 0 0 0) → S.blk 0 = some (pkB ps j) → S.blk nm = some (.rows 6 (tkRows c')) →
        (Nm.mk 1 [(nm, 1)] [] []).ok S.nx 32 = true → (Nm.mk 1 [(nm, 1)] [] []).new 0 = some 0 → (Nm.mk 1 [(nm, 1)] [] []).new nm = some 1 → N S := by
      intro S j c' nm hi hl hmr g1 g2 g3 g4 b0 b1 hok hnew0 hnew
      exact hN' _ (i - 1, j, c') ⟨by simp only; omega, hmr⟩ (by simp only; omega) (Sub.tell ⟨1, [(nm, 1)], [], []⟩ (hq 1) hok ⟨⟨_, g1, .same _ rfl⟩, ⟨_, g2, .same _ rfl⟩, ⟨_, g3, .sl 6 nm 1 0 _ hnew⟩, ⟨_, g4, .ptr 0 0 0 0 hnew0⟩, trivial⟩ ⟨.inl ⟨0, _, hnew0, by simp, b0, hpk _ _ _⟩, .inl ⟨nm, _, hnew, by simp, b1, lowB_same (tkRows_plain _)⟩, trivial⟩)
    simp only [EV, EX, hP, reduceIte, Nat.reduceEqDiff, Nat.reduceAdd, Nat.reduceSub, binA, IN]
    refine condS_d (fun h => ?_) (fun h => ?_)
    · have w1 := hwi h
      have hi : 0 < i := by omega
      have w2 : IntKind.i64.wrap (3 * (l.length : Int)) = 3 * l.length := wrap_i64 (by omega) (by omega)
      simp only [EV, EX, hP, reduceIte, Nat.reduceEqDiff, Nat.reduceAdd, Nat.reduceSub, binA, IN, len_sl ty24, w2]
      refine callW_of (hnum _ _ 3 (by decide) (by decide) _ _ rfl) ?_
      rintro d U ⟨rfl, rfl⟩
      have hv3 := numV_bound hps (n := m) (m := 3) (by decide)
      have w3 : IntKind.i64.wrap (3 * (l.length : Int) + numV ps m 3) = 3 * l.length + numV ps m 3 := wrap_i64 (by omega) (by omega)
      simp only [EV, EX, hP, reduceIte, Nat.reduceEqDiff, Nat.reduceAdd, Nat.reduceSub, binA, IN, w3]
      refine callW_of (htsk _ _ _ (by omega) (by omega) _ _ rfl) ?_
      rintro d U ⟨t, j, ht, rfl, rfl⟩
      have hrow : t.row = [.int .i64 t.rank, .int .i64 t.period, .int .i64 t.fin, .fz 4 (instRows t.main), .fz 4 (instRows t.way), .fz 4 (instRows t.opt)] := rfl
      have htm := s_rTaskMay t ht.2.1
      rw [hrow] at htm ⊢
      simp only [EV, EX, hP, reduceIte, Nat.reduceEqDiff, Nat.reduceAdd, Nat.reduceSub, binA, IN, MX, buildA, fillA, faddrA, load_ptr, load_fp, rowOf_eq, packA, TK.isAgg, cellsOf, cellD, boxA, allocA, storeA, putCells, Nat.reduceLeDiff, extA, ty36, fillA, Option.map_some, cells_agg, List.length_cons, List.length_nil]
      refine callW_pure hP htm (by simp only [plainL, plain, instRows_plain, Bool.and_self]) rfl ?_
      have hle : l.length ≤ (tkRows l).length := by rw [tkRows_length]; exact Nat.le_refl _
      have htk : (tkRows l).take l.length = tkRows l := List.take_of_length_le (by rw [tkRows_length]; exact Nat.le_refl _)
      have hroom : ((l.length : Int) + ((1 : Nat) : Int)) * ((96 : Nat) : Int) ≤ 140737488355328 := by omega
      simp only [EV, EX, hP, reduceIte, Nat.reduceEqDiff, Nat.reduceAdd, Nat.reduceSub, binA, IN]
      refine condS_d (fun h2 => ?_) (fun h2 => ?_)
      · simp only [EV, EX, hP, reduceIte, Nat.reduceEqDiff, Nat.reduceAdd, Nat.reduceSub, binA, IN, MX, buildA, fillA, faddrA, load_ptr, load_fp, rowOf_eq, packA, TK.isAgg, cellsOf, cellD, boxA, allocA, storeA, putCells, Nat.reduceLeDiff, extA, ty36, cells_agg, List.length_cons, List.length_nil, bslA, elTI_eq ty24, setRows, List.replicate_succ, List.replicate_zero, List.getD_cons_zero, Nat.reduceLT, Nat.reduceMul, true_and, and_true, appA, ty24, rowsOf, hle, htk, hroom, w1]
        have e1 : l.length + 1 = (l ++ [t]).length := by simp
        have e2 : tkRows l ++ [[.int .i64 t.rank, .int .i64 t.period, .int .i64 t.fin, .fz 4 (instRows t.main), .fz 4 (instRows t.way), .fz 4 (instRows t.opt)]] = tkRows (l ++ [t]) := by rw [tkRows_append]; rfl
        rw [e1, e2]
        exact hnx _ j (l ++ [t]) _ hi (by simp) (madeRow_snoc hml (by omega) (by omega) ht h2) rfl rfl rfl rfl rfl rfl rfl rfl rfl
      · simp only [EV, EX, hP, reduceIte, Nat.reduceEqDiff, Nat.reduceAdd, Nat.reduceSub, binA, IN, w1]
        exact hnx _ j l 1 hi (by omega) hml rfl rfl rfl rfl rfl rfl rfl rfl rfl
    · simp only [EV, EX, hP, reduceIte, Nat.reduceEqDiff, Nat.reduceAdd, Nat.reduceSub, binA, IN]
      refine hQ _ ⟨⟨0, [], [], [1]⟩, [.sl 6 1 0 l.length], [.fz 6 (tkRows l)], [], [], rfl, Nat.le_refl _, rfl, .cons _ _ _ _ (Tl.frzAll (by simp) rfl (by rw [tkRows_length]) (tkRows_plain _) (tkRows_rows _)) .nil, trivial, rfl, l, by omega, hml, rfl, rfl⟩

theorem call_row16 (ps : List Int) (hps : bytes ps) (most : Int) (hm1 : 1 ≤ most) (hm2 : most ≤ 20) (nb : Nat) (h : Nat → Option Blk) :
    CallR Try.prog (.fn 14 [] []) [.fz 1 (u8Rows ps), .int .i64 most] h nb fun d U => ∃ l : List Tk, (l.length : Int) ≤ most ∧ madeRow l ∧ d = .fz 6 (tkRows l) ∧ U = [] := by
  refine (s_row16 ps hps most hm1 hm2).callR [] nb rfl (by simp) rfl (by simp [renL, ren, sg, plainR_ren, u8Rows_plain]) trivial ?_
  rintro d U ⟨l, h1, h2, rfl, rfl⟩
  exact ⟨.fz 6 (tkRows l), [], plain_ren _ (by simp only [plain, tkRows_plain]), rfl, l, h1, h2, rfl, rfl⟩

theorem madeRow_fit {l : List Tk} (h : madeRow l) : ∀ t ∈ l, t.fit := by
  intro t ht
  obtain ⟨k, hk, rfl⟩ := List.getElem_of_mem ht
  obtain ⟨r, _, _, h1, _⟩ := h k hk
  exact h1.2.1
theorem madeRow_row {l : List Tk} (h : madeRow l) : rowP l = true := by
  unfold rowP
  rw [List.all_eq_true]
  intro k hk
  have hk : k < l.length := by simpa using hk
  obtain ⟨r, h1, h2, h3, h4⟩ := h k hk
  unfold rowAt
  rw [tkAt_get hk, h4]
  by_cases h0 : k = 0
  · simp [h0]
  · obtain ⟨r2, g1, g2, g3, g4⟩ := h (k - 1) (by omega)
    rw [tkAt_get (show k - 1 < l.length by omega)]
    have e1 := h3.1
    have e2 := g3.1
    simp [h0]; omega
end Go.Fv
/- PLAIN: the least that is so. -/
namespace Go.Fv

/-- What the rounds come to: the least that is so, or nothing up to the end is. -/
theorem respIter_least {f : Int → Int} {E b : Int} (hm : ∀ r s, 0 ≤ r → r ≤ s → f r ≤ f s) (hb : ∀ r, 0 ≤ r → b ≤ f r) : ∀ (m : Nat) (r n : Int), 0 ≤ r → r ≤ f r → (E + 1 - r).toNat + 1 ≤ m → (∀ x, 0 ≤ x → f x = x → r ≤ x) →
    ((respIter f E m r n).2.2 = 0 ∧ f (respIter f E m r n).1 = (respIter f E m r n).1 ∧ (respIter f E m r n).1 ≤ E ∧ r ≤ (respIter f E m r n).1 ∧ (∀ x, 0 ≤ x → f x = x → (respIter f E m r n).1 ≤ x) ∧ n ≤ (respIter f E m r n).2.1 ∧ (respIter f E m r n).2.1 ≤ n + ((respIter f E m r n).1 - r) ∧ ((respIter f E m r n).1 ≠ r → n + 1 ≤ (respIter f E m r n).2.1)) ∨
    (respIter f E m r n = (0, 0, 14) ∧ ∀ x, 0 ≤ x → x ≤ E → f x ≠ x)
  | 0, r, n, _, _, h, _ => by omega
  | m + 1, r, n, h0, h1, h2, h3 => by
    simp only [respIter]
    by_cases h4 : E < f r
    · rw [if_pos h4]
      refine .inr ⟨rfl, fun x hx hxe he => ?_⟩
      have := hm r x h0 (h3 x hx he)
      omega
    · rw [if_neg h4]
      by_cases h5 : f r = r
      · rw [if_pos h5]
        exact .inl ⟨rfl, h5, by simp only; omega, Int.le_refl _, h3, Int.le_refl _, by simp, fun h => absurd rfl h⟩
      · rw [if_neg h5]
        have hlt : r < f r := by omega
        have h0' : 0 ≤ f r := by omega
        have h2' : (E + 1 - f r).toNat + 1 ≤ m := by omega
        have h3' : ∀ x, 0 ≤ x → f x = x → f r ≤ x := fun x hx he => by have := hm r x h0 (h3 x hx he); omega
        rcases respIter_least hm hb m (f r) (n + 1) h0' (hm r (f r) h0 h1) h2' h3' with ⟨g1, g2, g3, g4, g5, g6, g7, g8⟩ | ⟨g1, g2⟩
        · exact .inl ⟨g1, g2, g3, by omega, g5, by omega, by omega, fun _ => by omega⟩
        · exact .inr ⟨g1, g2⟩

theorem begun17 : respP [⟨1, 50, 50, [⟨1, 0, 0, 0⟩, ⟨1, 0, 0, 0⟩, ⟨0, 0, 0, 0⟩], [], []⟩] 0 100 = (6, 2, 0) ∧ respP [⟨1, 50, 50, [⟨1, 0, 0, 0⟩, ⟨1, 0, 0, 0⟩, ⟨0, 0, 0, 0⟩], [], []⟩] 1 100 = (0, 0, 1) := by
  decide +kernel
end Go.Fv
/- PLAIN: what the bound comes to. -/
namespace Go.Fv

/-- What is told is the least that is so; or nothing up to the end is. -/
theorem resp_law {l : List Tk} (hr : rowP l = true) {i : Nat} (hi : i < l.length) {apart : Int} (ha : 1 ≤ apart) :
    (∃ r n : Int, respP l i apart = (r, n, 0) ∧ rhs l i apart r = r ∧ r ≤ (tkAt l i).fin ∧ (costsT (tkAt l i)).1 + byOf l i ≤ r ∧ (∀ x, 0 ≤ x → rhs l i apart x = x → r ≤ x) ∧ 1 ≤ n ∧ n ≤ 1 + r - ((costsT (tkAt l i)).1 + byOf l i) ∧ (r ≠ (costsT (tkAt l i)).1 + byOf l i → 2 ≤ n)) ∨
    (respP l i apart = (0, 0, 14) ∧ ∀ x, 0 ≤ x → x ≤ (tkAt l i).fin → rhs l i apart x ≠ x) := by
  have hmay := fun k hk => (rowP_may hr k hk).1
  obtain ⟨a1, a2, a3, a4, a5, a6, a7, a8, a9⟩ := costsT_small (hmay i hi)
  have hB := byOf_small l i
  have hm : ∀ r s, 0 ≤ r → r ≤ s → rhs l i apart r ≤ rhs l i apart s := fun r s h1 h2 => rhs_mono hmay hi ha h1 h2
  have hb : ∀ r, 0 ≤ r → (costsT (tkAt l i)).1 + byOf l i ≤ rhs l i apart r := fun r h => rhs_base hmay hi ha h
  have e : respP l i apart = respOf l i apart := by
    unfold respP
    rw [if_neg (by rw [hr]; simp; omega), Int.toNat_natCast]
  unfold respOf at e
  have hbb := hb ((costsT (tkAt l i)).1 + byOf l i) (by omega)
  have := respIter_least (f := rhs l i apart) (E := (tkAt l i).fin) hm hb 20000 ((costsT (tkAt l i)).1 + byOf l i) 1 (by omega) hbb (by omega) (fun x hx he => by have := hb x hx; omega)
  rw [← e] at this
  rcases this with ⟨g1, g2, g3, g4, g5, g6, g7, g8⟩ | ⟨g1, g2⟩
  · exact .inl ⟨_, _, by rw [← g1], g2, g3, g4, g5, g6, by omega, fun h => by have := g8 h; omega⟩
  · exact .inr ⟨g1, g2⟩

end Go.Fv
/- PLAIN: what makes the bound no longer. -/
namespace Go.Fv

theorem fix_below {f : Int → Int} (hm : ∀ r s, 0 ≤ r → r ≤ s → f r ≤ f s) (h0 : ∀ r, 0 ≤ r → 0 ≤ f r) : ∀ (n : Nat) (r : Int), 0 ≤ r → r.toNat ≤ n → f r ≤ r → ∃ x, 0 ≤ x ∧ x ≤ r ∧ f x = x
  | 0, r, h, hn, hf => by
    have e : r = 0 := by omega
    subst e
    exact ⟨0, by omega, by omega, by have := h0 0 (by omega); omega⟩
  | n + 1, r, h, hn, hf => by
    by_cases e : f r = r
    · exact ⟨r, h, Int.le_refl _, e⟩
    · obtain ⟨x, h1, h2, h3⟩ := fix_below hm h0 n (f r) (h0 r h) (by have := h0 r h; omega) (hm (f r) r (h0 r h) hf)
      exact ⟨x, h1, by omega, h3⟩

theorem below_law {l : List Tk} (hr : rowP l = true) {i : Nat} (hi : i < l.length) {apart r : Int} (ha : 1 ≤ apart) (h0 : 0 ≤ r) (hE : r ≤ (tkAt l i).fin) (hf : rhs l i apart r ≤ r) : ∃ s n : Int, respP l i apart = (s, n, 0) ∧ s ≤ r := by
  have hmay := fun k hk => (rowP_may hr k hk).1
  obtain ⟨a1, a2, a3, a4, a5, a6, a7, a8, a9⟩ := costsT_small (hmay i hi)
  have hB := byOf_small l i
  obtain ⟨x, h1, h2, h3⟩ := fix_below (f := rhs l i apart) (fun r s h1 h2 => rhs_mono hmay hi ha h1 h2) (fun r h => by have := rhs_base hmay hi ha h; omega) r.toNat r h0 (Nat.le_refl _) hf
  rcases resp_law hr hi ha with ⟨s, n, e1, e2, e3, e4, e5, e6, e7, e8⟩ | ⟨e1, e2⟩
  · exact ⟨s, n, e1, by have := e5 x h1 h3; omega⟩
  · exact absurd h3 (e2 x h1 (by omega))

theorem upI_ge {r a : Int} (hr : 0 ≤ r) (ha : 1 ≤ a) : r ≤ upI r a * a := by
  rw [upI_eq hr ha]
  have h1 := Int.mul_ediv_add_emod (r + a - 1) a
  have h2 := Int.emod_lt_of_pos (r + a - 1) (show 0 < a by omega)
  rw [Int.mul_comm] at h1
  omega
theorem upI_far {r a b : Int} (hr : 0 ≤ r) (ha : 1 ≤ a) (hab : a ≤ b) : upI r b ≤ upI r a := by
  have h1 := upI_ge hr ha
  have h2 := upI_nonneg hr ha
  have h3 : upI r a * a ≤ upI r a * b := Int.mul_le_mul_of_nonneg_left hab h2
  have h4 : upI r b < upI r a + 1 := by
    rw [upI_eq hr (show 1 ≤ b by omega)]
    refine Int.ediv_lt_of_lt_mul (by omega) ?_
    rw [Int.add_mul]; omega
  omega

theorem far_law {l : List Tk} (hmay : ∀ k, k < l.length → mayT (tkAt l k) = 0) {i : Nat} (hi : i < l.length) {a b r : Int} (ha : 1 ≤ a) (hab : a ≤ b) (hr : 0 ≤ r) : rhs l i b r ≤ rhs l i a r := by
  have h1 := upI_far hr ha hab
  have h2 := (lostUpto_small hmay (i + 1) (by omega)).1
  have h3 := Int.mul_le_mul_of_nonneg_right h1 h2
  unfold rhs; omega

theorem rowP_intro {l : List Tk} (h : ∀ k, k < l.length → mayT (tkAt l k) = 0 ∧ (0 < k → (tkAt l (k - 1)).rank < (tkAt l k).rank)) : rowP l = true := by
  unfold rowP
  rw [List.all_eq_true]
  intro k hk
  have hk : k < l.length := by simpa using hk
  obtain ⟨h1, h2⟩ := h k hk
  unfold rowAt
  by_cases h0 : k = 0
  · simp [h0, h0 ▸ h1]
  · simp [h1, h0, h2 (by omega)]

/-- A task whose Period is twice as long. -/
def Tk.dbl (t : Tk) : Tk := ⟨t.rank, t.period * 2, t.fin, t.main, t.way, t.opt⟩
theorem mayT_dbl {t : Tk} (h : mayT t = 0) (hp : 1 ≤ t.period) (hp2 : t.period ≤ 1000) : mayT t.dbl = 0 := by
  unfold mayT at h ⊢
  by_cases c1 : t.rank < 0 ∨ 63 < t.rank
  · rw [if_pos c1] at h; omega
  rw [if_neg c1] at h
  by_cases c2 : t.period < 1 ∨ 16384 < t.period ∨ t.fin < 1 ∨ t.period < t.fin
  · rw [if_pos c2] at h; omega
  rw [if_neg c2] at h
  rw [if_neg (show ¬ (t.dbl.rank < 0 ∨ 63 < t.dbl.rank) from c1), if_neg (show ¬ (t.dbl.period < 1 ∨ 16384 < t.dbl.period ∨ t.dbl.fin < 1 ∨ t.dbl.period < t.dbl.fin) by simp only [Tk.dbl]; omega)]
  exact h
theorem costsT_dbl {t : Tk} (h : mayT t = 0) (h2 : mayT t.dbl = 0) : costsT t.dbl = costsT t := by
  unfold costsT
  rw [if_pos h, if_pos h2]; rfl

section
variable {t : Tk} {ts : List Tk}
theorem tkAt_zero : tkAt (t :: ts) 0 = t := rfl
theorem tkAt_succ {k : Nat} : tkAt (t :: ts) (k + 1) = tkAt ts k := by simp [tkAt]
theorem bySpans_dbl {i : Int} {sp : List (Int × Int)} {m : Int} : bySpans (t.dbl :: ts) i sp m = bySpans (t :: ts) i sp m := by
  unfold bySpans
  congr 1

section
variable (hc : costsT t.dbl = costsT t)
include hc
theorem cost_dbl (k : Nat) : costsT (tkAt (t.dbl :: ts) k) = costsT (tkAt (t :: ts) k) := by
  cases k with
  | zero => exact hc
  | succ k => rw [tkAt_succ, tkAt_succ]
theorem by_dbl {i : Int} : ∀ k, k ≤ ts.length + 1 → byUpto (t.dbl :: ts) i k = byUpto (t :: ts) i k
  | 0, _ => rfl
  | k + 1, h => by
    have ih := by_dbl (i := i) k (by omega)
    have e := cost_dbl hc (ts := ts) k
    rw [tkAt_get (show k < (t.dbl :: ts).length by simp; omega), tkAt_get (show k < (t :: ts).length by simp; omega)] at e
    rw [byUpto_succ (show k < (t.dbl :: ts).length by simp; omega), byUpto_succ (show k < (t :: ts).length by simp; omega), ih, e, bySpans_dbl]
theorem lost_dbl : ∀ k, lostUpto (t.dbl :: ts) k = lostUpto (t :: ts) k
  | 0 => rfl
  | k + 1 => by simp only [lostUpto, lost_dbl k, cost_dbl hc]
theorem sum_dbl (hmay : ∀ k, k < (t :: ts).length → mayT (tkAt (t :: ts) k) = 0) {r : Int} (hr : 0 ≤ r) : ∀ k, k ≤ ts.length + 1 → sumUpto (t.dbl :: ts) r k ≤ sumUpto (t :: ts) r k
  | 0, _ => Int.le_refl _
  | k + 1, h => by
    have ih := sum_dbl hmay hr k (by omega)
    obtain ⟨a1, a2, a3, a4, a5, a6, a7, a8, a9⟩ := costsT_small (hmay k (by simp; omega))
    simp only [sumUpto, cost_dbl hc]
    have : upI r (tkAt (t.dbl :: ts) k).period ≤ upI r (tkAt (t :: ts) k).period := by
      cases k with
      | zero => exact upI_far hr (by omega) (by show t.period ≤ t.period * 2; have : 1 ≤ t.period := by have := a9; simp only [tkAt_zero] at *; omega
                                                omega)
      | succ k => rw [tkAt_succ, tkAt_succ]; exact Int.le_refl _
    have := Int.mul_le_mul_of_nonneg_right this (show 0 ≤ (costsT (tkAt (t :: ts) k)).1 by omega)
    omega
theorem rhs_dbl (hmay : ∀ k, k < (t :: ts).length → mayT (tkAt (t :: ts) k) = 0) {i : Nat} (hi : i < (t :: ts).length) {a r : Int} (hr : 0 ≤ r) : rhs (t.dbl :: ts) i a r ≤ rhs (t :: ts) i a r := by
  have h1 := sum_dbl hc hmay hr i (by simp at hi; omega)
  have h2 : byOf (t.dbl :: ts) i = byOf (t :: ts) i := by
    unfold byOf
    exact by_dbl hc _ (by simp)
  unfold rhs
  rw [cost_dbl hc, h2, lost_dbl hc]
  omega
end

theorem ceil_tail {s : Int} {i : Nat} (hi : i < 8) (h : ceilOf ts s ≤ i) : ceilOf (t :: ts) s ≤ (i + 1 : Nat) := by
  unfold ceilOf idxOf at h ⊢
  rw [List.findIdx?_cons]
  cases hf : ts.findIdx? (locksT s) with
  | none => rw [hf] at h; simp at h; omega
  | some k =>
    rw [hf] at h
    have hk : ¬ (k : Int) < 0 := by omega
    simp only [hk, if_false] at h
    cases locksT s t with
    | true => simp; omega
    | false =>
      have h3 : ¬ ((k + 1 : Nat) : Int) < 0 := by omega
      simp only [Bool.false_eq_true, if_false, Option.map_some, h3]
      omega
theorem bySpans_ge {l : List Tk} {i : Int} : ∀ (sp : List (Int × Int)) (m : Int), m ≤ bySpans l i sp m
  | [], m => Int.le_refl _
  | s :: sp, m => by
    unfold bySpans
    simp only [List.foldl_cons]
    have h := bySpans_ge (l := l) (i := i) sp (if ceilOf l s.1 ≤ i then max m s.2 else m)
    unfold bySpans at h
    split at h
    · rename_i hc; rw [if_pos hc]; omega
    · rename_i hc; rw [if_neg hc]; omega
theorem bySpans_tail {i : Nat} (hi : i < 8) : ∀ (sp : List (Int × Int)) (m m' : Int), m ≤ m' → bySpans ts i sp m ≤ bySpans (t :: ts) (i + 1 : Nat) sp m'
  | [], m, m', h => h
  | s :: sp, m, m', h => by
    have ih := fun a b hab => bySpans_tail hi sp a b hab
    unfold bySpans at ih ⊢
    simp only [List.foldl_cons]
    refine ih _ _ ?_
    by_cases c1 : ceilOf ts s.1 ≤ i
    · rw [if_pos c1, if_pos (ceil_tail hi c1)]; omega
    · rw [if_neg c1]
      split <;> omega
theorem by_tail {i : Nat} (hi : i < 8) : ∀ k, k ≤ ts.length → byUpto ts i k ≤ byUpto (t :: ts) (i + 1 : Nat) (k + 1)
  | 0, h => by
    rw [byUpto_succ (show 0 < (t :: ts).length by simp), if_neg (by omega)]
    exact bySpans_ge _ _
  | k + 1, h => by
    have ih := by_tail hi k (by omega)
    rw [byUpto_succ (show k < ts.length by omega), byUpto_succ (show k + 1 < (t :: ts).length by simp; omega)]
    simp only [List.getElem_cons_succ]
    by_cases c : (k : Int) = i
    · rw [if_pos c, if_pos (by omega)]; exact ih
    · rw [if_neg c, if_neg (by omega)]; exact bySpans_tail hi _ _ _ ih
theorem lost_tail : ∀ k, lostUpto ts k ≤ lostUpto (t :: ts) (k + 1)
  | 0 => by simp only [lostUpto]; omega
  | k + 1 => by
    have ih := lost_tail k
    have e : lostUpto (t :: ts) (k + 1 + 1) = max (lostUpto (t :: ts) (k + 1)) (costsT (tkAt ts k)).2.1 := by
      rw [← tkAt_succ (t := t)]; rfl
    rw [e]
    simp only [lostUpto] at ih ⊢
    omega
theorem sum_tail {r : Int} : ∀ k, sumUpto (t :: ts) r (k + 1) = upI r t.period * (costsT t).1 + sumUpto ts r k
  | 0 => by simp [sumUpto, tkAt_zero]
  | k + 1 => by
    have ih := sum_tail (r := r) k
    have e : sumUpto (t :: ts) r (k + 1 + 1) = sumUpto (t :: ts) r (k + 1) + upI r (tkAt ts k).period * (costsT (tkAt ts k)).1 := by
      rw [← tkAt_succ (t := t)]; rfl
    rw [e, ih]
    simp only [sumUpto]; omega
theorem rhs_tail (hmay : ∀ k, k < (t :: ts).length → mayT (tkAt (t :: ts) k) = 0) {i : Nat} (hi : i < ts.length) (hi8 : i < 8) {a r : Int} (ha : 1 ≤ a) (hr : 0 ≤ r) : rhs ts i a r ≤ rhs (t :: ts) (i + 1) a r := by
  have h0 := hmay 0 (by simp)
  rw [tkAt_zero] at h0
  obtain ⟨a1, a2, a3, a4, a5, a6, a7, a8, a9⟩ := costsT_small h0
  have h1 := sum_tail (t := t) (ts := ts) (r := r) i
  have h2 : byOf ts i ≤ byOf (t :: ts) (i + 1 : Nat) := by
    unfold byOf
    exact by_tail hi8 _ (Nat.le_refl _)
  have h3 := lost_tail (t := t) (ts := ts) (i + 1)
  have h4 := upI_nonneg hr ha
  have h5 := Int.mul_le_mul_of_nonneg_left h3 h4
  have h6 := Int.mul_nonneg (upI_nonneg hr (show 1 ≤ t.period by omega)) (show 0 ≤ (costsT t).1 by omega)
  unfold rhs
  rw [tkAt_succ, h1]
  omega
end
end Go.Fv
/- ABSTRACT VALUES AND STATES (34): a law's contract as the machine's call; arguments that came in. -/
namespace Go.Fv

theorem Tr.below {w w' : World} {F F' : Nat → Prop} {ρ ρ' : Nat → Place} {N N' : Nat → Prop} {h' : Nat → Option Blk} (T : Tr w F ρ N (lkO []) w' F' ρ' N' h') : Go.RowKit.Below w.heap.size w w' :=
  ⟨T.os, T.tape, T.out, T.ev.size, fun k hk => T.same k hk (by rintro ⟨n, B, h, _⟩; cases h)⟩

/-- Arguments, told: where they lie and what they are. -/
structure Came (w : World) (vs : Array Value) (az : List DV) : Prop where
  ex : ∃ F : Nat → Prop, (∀ a, F a → a < w.heap.size) ∧ az.length = vs.size ∧ ∀ (i : Nat) (a : DV) (v : Value), az[i]? = some a → vs[i]? = some v → ∀ ρ, RepV w F ρ (· < 0) a v

theorem law_calls {P : Program} {f : FuncId} {az : List DV} {vs : Array Value} {w : World} (hs : Pure P f az (.bool true)) (hc : Came w vs az) : Calls P f vs w fun e w' => e = .returned (.bool true) ∧ Go.RowKit.Below w.heap.size w w' := by
  obtain ⟨F, hF, hl, ha⟩ := hc.ex
  have H : HOk w F (fun _ => default) (· < 0) (lkO ([] : List (Nat × Option Blk))) := ⟨fun n B hn => (by cases hn), fun n m B C hn => (by cases hn), fun a h => ⟨hF a h, fun n B hn => (by cases hn)⟩⟩
  refine (hs.2 w F _ H vs hl (fun i a v h1 h2 => ha i a v h1 h2 _)).mono ?_
  rintro e w' ⟨v, rfl, d, U, F', ρ', ⟨rfl, rfl⟩, T, hv⟩
  rw [hv.bool_inv]
  exact ⟨rfl, T.below⟩

theorem Came.nil {w : World} : Came w #[] [] := ⟨fun _ => False, fun _ h => h.elim, rfl, by simp⟩

/-- A value told with blocks of its own. -/
def In (w : World) (v : Value) (d : DV) : Prop := ∃ F : Nat → Prop, (∀ a, F a → a < w.heap.size) ∧ ∀ ρ, RepV w F ρ (· < 0) d v

theorem RepV.more {w : World} {F F' : Nat → Prop} {ρ : Nat → Place} {N : Nat → Prop} {d : DV} {v : Value} (h : RepV w F ρ N d v) (hF : ∀ a, F a → F' a) : RepV w F' ρ N d v :=
  h.mono (Ev.refl w) (fun a ha => ⟨hF a ha, rfl⟩) (fun n hn => ⟨hn, rfl⟩)

theorem Came.snoc {w : World} {vs : Array Value} {az : List DV} {v : Value} {d : DV} (h : Came w vs az) (hi : In w v d) : Came w (vs.push v) (az ++ [d]) := by
  obtain ⟨F, hF, hl, ha⟩ := h.ex
  obtain ⟨G, hG, hg⟩ := hi
  refine ⟨fun a => F a ∨ G a, fun a h => h.elim (hF a) (hG a), by simp [hl], fun i a x h1 h2 ρ => ?_⟩
  rw [List.getElem?_append] at h1
  rw [Array.getElem?_push] at h2
  split at h1
  · rename_i h3
    rw [if_neg (by omega)] at h2
    exact (ha i a x h1 h2 ρ).more fun _ h => .inl h
  · rename_i h3
    have hi : i = vs.size := by
      have := (List.getElem?_eq_some_iff.1 h1).1
      simp at this; omega
    subst hi
    rw [if_pos rfl] at h2
    cases h2
    rw [hl] at h1
    simp only [Nat.sub_self, List.getElem?_cons_zero, Option.some.injEq] at h1
    subst h1
    exact (hg ρ).more fun _ h => .inr h

theorem In.int {w : World} (k : IntKind) (n : Int) : In w (.int k n) (.int k n) := ⟨fun _ => False, fun _ h => h.elim, fun _ => .int k n⟩
theorem In.bool {w : World} (b : Bool) : In w (.bool b) (.bool b) := ⟨fun _ => False, fun _ h => h.elim, fun _ => .bool b⟩

def rowsK (k : IntKind) (zs : List Int) : List (List DV) := zs.map fun n => [.int k n]

theorem rowsK_length (k : IntKind) (zs : List Int) : (rowsK k zs).length = zs.length := by simp [rowsK]
/-- A slice of numbers that came in. -/
theorem In.ints {w : World} {k : IntKind} {a : Option Addr} {len cap : Nat} {zs : List Int}
    (h : (a = none ∧ len = 0 ∧ cap = 0 ∧ zs = []) ∨ ∃ x, a = some x ∧ len ≤ cap ∧ cap ≤ maxL ∧ zs.length = cap ∧ x.spot = none ∧ x.block < w.heap.size ∧ ∀ i, i < zs.length → w.cell? (x.add i) = some (.int k (zs.getD i 0))) :
    In w (.slice a len cap) (.fz 1 (rowsK k (zs.take len))) := by
  rcases h with ⟨rfl, rfl, rfl, rfl⟩ | ⟨⟨b, o, sp⟩, rfl, hl, hm, hz, hp, hb, hc⟩
  · exact ⟨fun _ => False, fun _ h => h.elim, fun _ => .fznil 1⟩
  · simp only at hp hb
    subst hp
    have hlen : (rowsK k (zs.take len)).length = len := by rw [rowsK_length, List.length_take]; omega
    refine ⟨fun x => x = b, fun x hx => by rw [hx]; exact hb, fun ρ => ?_⟩
    have hcell : ∀ i, i < zs.length → w.cell? (adr b (o + i)) = some (.int k (zs.getD i 0)) := by
      intro i hi
      rw [← hc i hi]
      unfold Addr.add
      by_cases h0 : i = 0
      · subst h0; rfl
      · rw [if_neg h0]
    have := RepV.fz (w := w) (F := fun x => x = b) (ρ := ρ) (N := (· < 0)) 1 (rowsK k (zs.take len)) b o cap (fun i _ => .int k (zs.getD i 0)) rfl (by omega) (by omega) (by intro r hr; obtain ⟨x, _, rfl⟩ := List.mem_map.1 hr; rfl)
      (fun i j hi hj => by
        have hj0 : j = 0 := by omega
        subst hj0
        rw [Nat.mul_one, Nat.add_zero]
        exact ⟨hcell i (by omega), rfl⟩)
      (fun i j r d hr hd => by
        have hi : i < len := by rw [← hlen]; exact (List.getElem?_eq_some_iff.1 hr).1
        have hr2 : r = [.int k (zs.getD i 0)] := by
          simp only [rowsK, List.getElem?_map, List.getElem?_take] at hr
          rw [if_pos hi] at hr
          have hiz : i < zs.length := by omega
          rw [List.getElem?_eq_getElem hiz] at hr
          simp only [Option.map_some, Option.some.injEq] at hr
          rw [← hr, List.getD_eq_getElem?_getD, List.getElem?_eq_getElem hiz]; rfl
        subst hr2
        have hj0 : j = 0 := by have := (List.getElem?_eq_some_iff.1 hd).1; simp at this; exact this
        subst hj0
        cases hd
        exact .int k _)
    rw [hlen] at this
    exact this
end Go.Fv
/- CONTRACTS: the laws of bound: begun, program, BoundAlone. -/
namespace Go.Fv
open Go.Proofs

/-- Own rows told as frozen ones, row by row. -/
theorem Tl.rowsOf {M : Nm} {h : Nat → Option Blk} {k b n : Nat} {rs rows : List (List DV)} (hZ : b ∈ M.Z) (hb : h b = some (.rows k rs)) (hn : n = rs.length) (hl : rs.length = rows.length) (hk : ∀ r ∈ rows, r.length = k)
    (hh : ∀ (i : Nat) (r r' : List DV), rs[i]? = some r → rows[i]? = some r' → TlL M h r r') : Tl M h (.sl k b 0 n) (.fz k rows) := by
  subst hn
  refine .frz k b 0 _ rs rows hZ hb (by omega) (by omega) (fun i j r r' x y h1 h2 h3 h4 => ?_) hk
  rw [List.drop_zero, List.take_length] at h1
  exact (hh i r r' h1 h2).at.2 j x y h3 h4

def begunTk : Tk := ⟨1, 50, 50, [⟨1, 0, 0, 0⟩, ⟨1, 0, 0, 0⟩, ⟨0, 0, 0, 0⟩], [], []⟩
set_option maxRecDepth 100000 in
theorem s_begun17 : Pure Try.prog 13 [] (.bool true) := by
  refine Spec.walk ok13 fun C Q hP hN hQ => ?_
  unfold c13
  have hf : ∀ t ∈ [begunTk], t.fit := by
    intro t ht
    simp only [List.mem_singleton] at ht
    subst ht
    unfold Tk.fit begunTk; simp
  have r0 := s_resp [begunTk] (by simp) hf 0 100 (by unfold i64r; omega) (by unfold i64r; omega)
  have r1 := s_resp [begunTk] (by simp) hf 1 100 (by unfold i64r; omega) (by unfold i64r; omega)
  have e0 : respP [begunTk] 0 100 = (6, 2, 0) := begun17.1
  have e1 : respP [begunTk] 1 100 = (0, 0, 1) := begun17.2
  rw [e0] at r0
  rw [e1] at r1
  simp only [EV, EX, hP, reduceIte, Nat.reduceEqDiff, Nat.reduceAdd, Nat.reduceSub, binA, IN, MX, buildA, fillA, faddrA, load_ptr, load_fp, rowOf_eq, packA, TK.isAgg, cellsOf, cellD, boxA, allocA, storeA, putCells, Nat.reduceLeDiff, extA, ty60, ty36, ty3, bslA, elTI_eq ty34, elTI_eq ty24, setRows, List.replicate_succ, List.replicate_zero, List.getD_cons_zero, List.getD_cons_succ, Nat.reduceLT, Nat.reduceMul, true_and, and_true, cells_int, cells_agg]
  have hT : ∀ (S : St) (i a : Int), S.blk 96 = some (.rows 6 [[.int .i64 1, .int .i64 50, .int .i64 50, .sl 4 64 0 3, .nilsl, .nilsl]]) → S.blk 64 = some (.rows 4 (instRows begunTk.main)) →
      TlL ⟨0, [], [], [96, 64]⟩ S.blk ([.sl 6 96 0 1, .int .i64 i, .int .i64 a] ++ []) [.fz 6 (tkRows [begunTk]), .int .i64 i, .int .i64 a] := by
    intro S i a h1 h2
    refine .cons _ _ _ _ (Tl.rowsOf (by simp) h1 rfl rfl (by intro r hr; simp [tkRows] at hr; subst hr; rfl) ?_) (.cons _ _ _ _ (.same _ rfl) (.cons _ _ _ _ (.same _ rfl) .nil))
    intro j r r' hr hr'
    match j with
    | 0 =>
      cases hr; cases hr'
      exact .cons _ _ _ _ (.same _ rfl) (.cons _ _ _ _ (.same _ rfl) (.cons _ _ _ _ (.same _ rfl) (.cons _ _ _ _ (Tl.frzAll (by simp) h2 rfl (instRows_plain _) (instRows_rows _)) (.cons _ _ _ _ (.nf 4) (.cons _ _ _ _ (.nf 4) .nil)))))
    | j + 1 => simp at hr
  refine callW_look (caps := []) hP r0 (by rintro d U ⟨rfl, _⟩; rfl) [96, 64] (hT _ 0 100 rfl rfl) ?_
  rintro d U ⟨rfl, _⟩
  simp only [EV, EX, hP, reduceIte, Nat.reduceEqDiff, Nat.reduceAdd, Nat.reduceSub, binA, IN, MX, buildA, fillA, faddrA, load_ptr, load_fp, rowOf_eq, packA, TK.isAgg, cellsOf, cellD, boxA, allocA, storeA, putCells, Nat.reduceLeDiff, extA]
  refine callW_look (caps := []) hP r1 (by rintro d U ⟨rfl, _⟩; rfl) [96, 64] (hT _ 1 100 rfl rfl) ?_
  rintro d U ⟨rfl, _⟩
  simp only [EV, EX, hP, reduceIte, Nat.reduceEqDiff, Nat.reduceAdd, Nat.reduceSub, binA, IN, MX, buildA, fillA, faddrA, load_ptr, load_fp, rowOf_eq, packA, TK.isAgg, cellsOf, cellD, boxA, allocA, storeA, putCells, Nat.reduceLeDiff, extA, pickA, decide_true]
  exact hQ _ <| retQ_pure _ rfl rfl ⟨rfl, rfl⟩

end Go.Fv
/- THE LAWS: BoundRises. -/
namespace Go.Fv
open Go.Proofs

set_option maxRecDepth 100000 in
theorem s_BoundRises (ps : List Int) (hps : bytes ps) (a : Int) (ha : 0 ≤ a ∧ a ≤ 255) (b : Int) (hb : 0 ≤ b ∧ b ≤ 255) : Pure Try.prog 5 [.fz 1 (u8Rows ps), .int .u8 a, .int .u8 b] (.bool true) := by
  refine Spec.walk ok5 fun C Q hP hN hQ => ?_
  unfold c5
  have hyes : ∀ S : St, S.get 6 = some (.bool true) → Q S := fun S g => hQ S <| retQ_pure [.bool true] (by simp only [resD, g]; rfl) rfl ⟨rfl, rfl⟩
  have hrow : ∀ (nb : Nat) (h : Nat → Option Blk), CallR C.P (.fn 14 [] []) [.fz 1 (u8Rows ps), .int .i64 4] h nb fun d U => ∃ l : List Tk, (l.length : Int) ≤ 4 ∧ madeRow l ∧ d = .fz 6 (tkRows l) ∧ U = [] := fun nb h => by
    rw [hP]; exact call_row16 ps hps 4 (by decide) (by decide) nb h
  simp only [EV, EX, hP, reduceIte, Nat.reduceEqDiff, Nat.reduceAdd, Nat.reduceSub, binA, IN]
  refine callW_pure hP s_begun17 rfl rfl ?_
  simp only [EV, EX, hP, reduceIte, Nat.reduceEqDiff, Nat.reduceAdd, Nat.reduceSub, binA, IN, unA, Bool.not_true, len_fz ty22, u8Rows_length]
  refine condS_d (fun h => ?_) (fun h => ?_)
  · simp only [EV, EX, hP, reduceIte, Nat.reduceEqDiff, Nat.reduceAdd, Nat.reduceSub, binA, IN]
    exact hyes _ rfl
  · simp only [EV, EX, hP, reduceIte, Nat.reduceEqDiff, Nat.reduceAdd, Nat.reduceSub, binA, IN]
    refine callW_of (hrow _ _) ?_
    rintro d U ⟨l, hl5, hml, rfl, rfl⟩
    simp only [EV, EX, hP, reduceIte, Nat.reduceEqDiff, Nat.reduceAdd, Nat.reduceSub, binA, IN, len_fz ty24, tkRows_length]
    refine condS_d (fun h2 => ?_) (fun h2 => ?_)
    · simp only [EV, EX, hP, reduceIte, Nat.reduceEqDiff, Nat.reduceAdd, Nat.reduceSub, binA, IN]
      exact hyes _ rfl
    · have hf := madeRow_fit hml
      have hrp := madeRow_row hml
      have hmay := fun k hk => (rowP_may hrp k hk).1
      obtain ⟨t, ts, rfl⟩ : ∃ t ts, l = t :: ts := by
        cases l with
        | nil => simp at h2
        | cons t ts => exact ⟨t, ts, rfl⟩
      have hlen : (t :: ts).length = ts.length + 1 := rfl
      have hts : 1 ≤ ts.length := by rw [hlen] at h2; omega
      have hts3 : ts.length ≤ 3 := by rw [hlen] at hl5; omega
      obtain ⟨r0, _, _, hmade, _⟩ := hml 0 (by simp)
      simp only [List.getElem_cons_zero] at hmade
      obtain ⟨_, hfit0, hp20, hp130, _, _⟩ := hmade
      have hm0 : mayT t = 0 := hmay 0 (by simp)
      have hmd := mayT_dbl hm0 (by omega) (by omega)
      have hcd := costsT_dbl hm0 hmd
      have wk : IntKind.i64.wrap (((ts.length + 1 : Nat) : Int) - 1) = (ts.length : Int) := by rw [wrap_i64 (by omega) (by omega)]; omega
      obtain ⟨lo, hlo⟩ : ∃ lo, lo = if b < a then b else a := ⟨_, rfl⟩
      obtain ⟨hi, hhi⟩ : ∃ hi, hi = if b > a then b else a := ⟨_, rfl⟩
      have hlo0 : 0 ≤ lo ∧ lo ≤ 255 ∧ lo ≤ hi := by rw [hlo, hhi]; split <;> split <;> omega
      have hhi0 : 0 ≤ hi ∧ hi ≤ 255 := by rw [hhi]; split <;> omega
      have wa : IntKind.i64.wrap lo = lo := wrap_i64 (by omega) (by omega)
      have wb : IntKind.i64.wrap (1 + lo) = 1 + lo := wrap_i64 (by omega) (by omega)
      have wc : IntKind.i64.wrap hi = hi := wrap_i64 (by omega) (by omega)
      have wd : IntKind.i64.wrap (1 + hi) = 1 + hi := wrap_i64 (by omega) (by omega)
      have hk : ts.length < (t :: ts).length := by rw [hlen]; omega
      have hpl : plainR (tkRows (t :: ts)) = true := tkRows_plain _
      have hr1 := s_resp (t :: ts) (by rw [hlen]; omega) hf ts.length (1 + lo) (by unfold i64r; omega) (by unfold i64r; omega)
      have hr2 := s_resp (t :: ts) (by rw [hlen]; omega) hf ts.length (1 + hi) (by unfold i64r; omega) (by unfold i64r; omega)
      have hfd : ∀ x ∈ t.dbl :: ts, x.fit := by
        intro x hx
        rcases List.mem_cons.1 hx with rfl | hx
        · exact hfit0
        · exact hf x (List.mem_cons_of_mem _ hx)
      have hr3 := s_resp (t.dbl :: ts) (by rw [List.length_cons]; omega) hfd ts.length (1 + lo) (by unfold i64r; omega) (by unfold i64r; omega)
      have hr4 := s_resp ts (by omega) (fun x hx => hf x (List.mem_cons_of_mem _ hx)) (ts.length - 1 : Nat) (1 + lo) (by unfold i64r; omega) (by unfold i64r; omega)
      -- what they come to
      have hrow3 : rowP (t.dbl :: ts) = true := rowP_intro fun k hk' => by
        have := rowP_may hrp k (by simpa using hk')
        match k with
        | 0 => exact ⟨hmd, fun h => absurd h (by omega)⟩
        | 1 => exact this
        | k + 2 => exact this
      have hrow4 : rowP ts = true := rowP_intro fun k hk' => by
        have := rowP_may hrp (k + 1) (by simp; omega)
        rw [tkAt_succ] at this
        refine ⟨this.1, fun h0 => ?_⟩
        have h3 := this.2 (by omega)
        rw [show k + 1 - 1 = (k - 1) + 1 by omega, tkAt_succ] at h3
        exact h3
      have hlaw := resp_law hrp hk (apart := 1 + lo) (by omega)
      simp only [EV, EX, hP, reduceIte, Nat.reduceEqDiff, Nat.reduceAdd, Nat.reduceSub, binA, IN, len_fz ty24, tkRows_length, hlen, wk, minA, maxA, ← hlo, ← hhi, convA, ty5, ty2, wa, wb, wc, wd]
      rcases hlaw with ⟨r, n, e1, e2, e3, e4, e5, e6, e7, e8⟩ | ⟨e1, e2⟩
      · obtain ⟨a1, a2, a3, a4, a5, a6, a7, a8, a9⟩ := costsT_small (hmay _ hk)
        have hB := byOf_small (t :: ts) ts.length
        obtain ⟨s, n2, f1, f2⟩ := below_law hrp hk (apart := 1 + hi) (r := r) (by omega) (by omega) e3 (by have := far_law hmay hk (a := 1 + lo) (b := 1 + hi) (r := r) (by omega) (by omega) (by omega); omega)
        have eE : ∀ k : Nat, 1 ≤ k → tkAt (t.dbl :: ts) k = tkAt (t :: ts) k := fun k h => by
          obtain ⟨j, rfl⟩ : ∃ j, k = j + 1 := ⟨k - 1, by omega⟩
          rw [tkAt_succ, tkAt_succ]
        obtain ⟨s3, n3, f3, f4⟩ := below_law hrow3 (i := ts.length) (by simp) (apart := 1 + lo) (r := r) (by omega) (by omega) (by rw [eE _ hts]; exact e3) (by have := rhs_dbl hcd hmay hk (a := 1 + lo) (r := r) (by omega); omega)
        obtain ⟨s4, n4, f5, f6⟩ := below_law hrow4 (i := ts.length - 1) (by omega) (apart := 1 + lo) (r := r) (by omega) (by omega) (by
            have : tkAt ts (ts.length - 1) = tkAt (t :: ts) ts.length := by
              rw [show tkAt (t :: ts) ts.length = tkAt (t :: ts) ((ts.length - 1) + 1) by congr 1; omega, tkAt_succ]
            rw [this]; exact e3) (by
            have h7 := rhs_tail hmay (i := ts.length - 1) (by omega) (by omega) (a := 1 + lo) (r := r) (by omega) (by omega)
            rw [show ts.length - 1 + 1 = ts.length by omega] at h7
            omega)
        rw [e1] at hr1
        rw [f1] at hr2
        rw [f3] at hr3
        rw [f5] at hr4
        refine callW_pure hP hr1 (by simp only [plainL, plain, hpl, Bool.and_self]) rfl ?_
        simp only [EV, EX, hP, reduceIte, Nat.reduceEqDiff, Nat.reduceAdd, Nat.reduceSub, binA, IN, extA, List.getElem?_cons_zero, List.getElem?_cons_succ, decide_true, Bool.not_true]
        refine callW_pure hP hr2 (by simp only [plainL, plain, hpl, Bool.and_self]) rfl ?_
        have hroom : (((0 : Nat) : Int) + ((ts.length + 1 : Nat) : Int)) * ((96 : Nat) : Int) ≤ 140737488355328 := by omega
        simp only [EV, EX, hP, reduceIte, Nat.reduceEqDiff, Nat.reduceAdd, Nat.reduceSub, binA, IN, MX, buildA, fillA, faddrA, load_ptr, load_fp, rowOf_eq, packA, TK.isAgg, cellsOf, cellD, boxA, allocA, storeA, putCells, Nat.reduceLeDiff, extA, extA, List.getElem?_cons_zero, List.getElem?_cons_succ, bslA, elTI_eq ty24, ty36, ty24, List.replicate_zero, setRows, appA, rowsOf, tkRows_length, hlen, hroom, Nat.reduceMul, List.take_zero, Nat.zero_add, true_and, and_true, if_true]
        have wp : IntKind.i64.wrap (t.period * 2) = t.period * 2 := wrap_i64 (by omega) (by omega)
        have hb0 : (0 : Int) ≤ 0 ∧ (0 : Int) < ((ts.length + 1 : Nat) : Int) := by omega
        have hrw : tkRows (t :: ts) = [.int .i64 t.rank, .int .i64 t.period, .int .i64 t.fin, .fz 4 (instRows t.main), .fz 4 (instRows t.way), .fz 4 (instRows t.opt)] :: tkRows ts := rfl
        simp only [EV, EX, hP, reduceIte, Nat.reduceEqDiff, Nat.reduceAdd, Nat.reduceSub, binA, IN, MX, buildA, fillA, faddrA, load_ptr, load_fp, rowOf_eq, packA, TK.isAgg, cellsOf, cellD, boxA, allocA, storeA, putCells, Nat.reduceLeDiff, extA, iaddr_sl, elSize_eq ty24 ty36, hb0, Int.toNat_zero, hrw, ty36, ty2, wp, cells_int]
        refine callW_look (caps := []) hP hr3 (by rintro d U ⟨rfl, _⟩; rfl) [864] (.cons _ _ _ _ (Tl.frzAll (rows := tkRows (t.dbl :: ts)) (by simp) rfl (by rw [tkRows_length]; rfl) (tkRows_plain _) (tkRows_rows _)) (.cons _ _ _ _ (.same _ rfl) (.cons _ _ _ _ (.same _ rfl) .nil))) ?_
        rintro d U ⟨rfl, _⟩
        have wm : IntKind.i64.wrap ((ts.length : Int) - 1) = ((ts.length - 1 : Nat) : Int) := by rw [wrap_i64 (by omega) (by omega)]; omega
        have hz1 : (1 ≤ ts.length + 1) = True := by simp
        have htk : (tkRows ts).take ts.length = tkRows ts := List.take_of_length_le (by rw [tkRows_length]; exact Nat.le_refl _)
        simp only [EV, EX, hP, reduceIte, Nat.reduceEqDiff, Nat.reduceAdd, Nat.reduceSub, binA, IN, MX, buildA, fillA, faddrA, load_ptr, load_fp, rowOf_eq, packA, TK.isAgg, cellsOf, cellD, boxA, allocA, storeA, putCells, Nat.reduceLeDiff, extA, extA, List.getElem?_cons_zero, List.getElem?_cons_succ, sliceA, elSize_eq ty24 ty36, ty36, bnd, Int.reduceLE, Int.reduceToNat, Int.toNat_one, List.length_cons, tkRows_length, hz1, if_true, Nat.le_refl, Nat.zero_le, Option.isSome_none, Bool.false_eq_true, false_implies, and_true, true_and, List.take_succ_cons, List.drop_succ_cons, List.drop_zero, htk, wm]
        refine callW_pure hP hr4 (by simp only [plainL, plain, tkRows_plain, Bool.and_self]) rfl ?_
        simp only [EV, EX, hP, reduceIte, Nat.reduceEqDiff, Nat.reduceAdd, Nat.reduceSub, binA, IN, extA, List.getElem?_cons_zero, List.getElem?_cons_succ, decide_true, pickA]
        simp only [f2, f4, f6, decide_true, EV, EX, hP, reduceIte, Nat.reduceEqDiff, Nat.reduceAdd, Nat.reduceSub, binA, IN, pickA]
        exact hyes _ rfl
      · rw [e1] at hr1
        refine callW_pure hP hr1 (by simp only [plainL, plain, hpl, Bool.and_self]) rfl ?_
        have q1 : ¬ (14 : Int) = 0 := by decide
        simp only [EV, EX, hP, reduceIte, Nat.reduceEqDiff, Nat.reduceAdd, Nat.reduceSub, binA, IN, extA, List.getElem?_cons_zero, List.getElem?_cons_succ, q1, decide_false, decide_true, Bool.not_false]
        exact hyes _ rfl
end Go.Fv
