/- Part 4 of the proof: RowBoundRises. -/
import Derived.Test.YtghoeoidffkijaaProg
import Derived.Test.YtghoeoidffkijaaBq3
set_option linter.unusedSimpArgs false
set_option linter.unusedVariables false
/- CONTRACTS: cost.Of. -/
namespace Go.Fv
open Go.Proofs

theorem btw_rows (ts : List Int) (a b : Nat) : ((intRows ts).take b).drop a = intRows ((ts.take b).drop a) := by simp [intRows, List.map_take, List.map_drop]

theorem may_ok {x : Inst} (h : x.may = true) : x.ok := by
  obtain ⟨o, a, b, n⟩ := x
  unfold Inst.may at h
  simp only at h
  unfold Inst.ok i64r
  simp only
  have hc : o = 0 ∨ o = 1 ∨ o = 2 ∨ o = 3 ∨ o = 4 ∨ o = 5 ∨ o = 6 ∨ o = 7 ∨ o = 8 ∨ o = 9 ∨ o = 10 ∨ o = 11 ∨ (o ≠ 0 ∧ o ≠ 1 ∧ o ≠ 2 ∧ o ≠ 3 ∧ o ≠ 4 ∧ o ≠ 5 ∧ o ≠ 6 ∧ o ≠ 7 ∧ o ≠ 8 ∧ o ≠ 9 ∧ o ≠ 10 ∧ o ≠ 11) := by omega
  rcases hc with rfl | rfl | rfl | rfl | rfl | rfl | rfl | rfl | rfl | rfl | rfl | rfl | hc
  all_goals first
    | (simp [mem8, btw] at h; omega)
    | (simp [hc] at h)

set_option maxRecDepth 100000 in
theorem s_costOf (l : List Inst) (hl : l.length ≤ maxL) : Pure Try.prog 53 [.fz 4 (instRows l)] (costD (costP l)) := by
  refine Spec.walk ok53 fun C Q hP hN hQ => ?_
  unfold c53
  simp only [EV, EX, hP, reduceIte, Nat.reduceEqDiff, Nat.reduceAdd, Nat.reduceSub, binA, IN, MX, buildA, fillA, faddrA, load_ptr, load_fp, rowOf_eq, packA, TK.isAgg, cellsOf, cellD, boxA, allocA, storeA, putCells, Nat.reduceLeDiff, extA, ty75]
  refine callW_pure hP (s_shapeMay l hl) (by simp [plainL, plain, instRows_plain]) rfl ?_
  simp only [EV, EX, hP, reduceIte, Nat.reduceEqDiff, Nat.reduceAdd, Nat.reduceSub, binA, IN, unA]
  refine condS_i (fun h => ?_) (fun h => ?_)
  · have h : shapeMay l = false := by simpa using h
    simp only [EV, EX, hP, reduceIte, Nat.reduceEqDiff, Nat.reduceAdd, Nat.reduceSub, binA, IN, MX, buildA, fillA, faddrA, load_ptr, load_fp, rowOf_eq, packA, TK.isAgg, cellsOf, cellD, boxA, allocA, storeA, putCells, Nat.reduceLeDiff, extA, ty75, ty2, fillA, Option.map_some, cells_agg]
    have hc : costP l = none := by simp [costP, h]
    rw [hc] at hQ
    refine hQ _ ⟨⟨0, [], [], []⟩, [.agg [.int .i64 0, .int .i64 0, .nilsl], .bool false], [.agg [.int .i64 0, .int .i64 0, .fz 2 []], .bool false], [], by simp only [resD, EV, EX, hP, reduceIte, Nat.reduceEqDiff, Nat.reduceAdd, Nat.reduceSub, MX, buildA, fillA, faddrA, load_ptr, load_fp, rowOf_eq, packA, TK.isAgg, cellsOf, cellD, boxA, allocA, storeA, putCells, Nat.reduceLeDiff, extA, ty75]; rfl, Nat.le_refl _, rfl,
      .cons _ _ _ _ (.agg _ _ rfl ?_) (.cons _ _ _ _ (.same _ rfl) .nil), trivial, rfl, rfl⟩
    intro j x y hx hy
    match j with
    | 0 => cases hx; cases hy; exact .same _ rfl
    | 1 => cases hx; cases hy; exact .same _ rfl
    | 2 => cases hx; cases hy; exact .nf 2
    | j + 3 => simp at hx
  · have h : shapeMay l = true := by simpa using h
    obtain ⟨hlen, hx, hend, hnest, ps, hps, hmark⟩ := shapeMay_inv h
    have hr := nest_rep hnest
    have hok : ∀ x ∈ l, x.ok := fun x hm => may_ok (hx x hm)
    have hpos := costTimes_pos hx
    have htl := costTimes_length l
    have hti := costTimes_i64 l
    obtain ⟨hpl, hpk⟩ := pairs_at hps
    have hspec : costP l = some ⟨satSum (costTimes l), (costUpto l (costTimes l) ps l.length).1, (costUpto l (costTimes l) ps l.length).2.2⟩ := by simp [costP, h, hps]
    rw [hspec] at hQ
    have hpr := s_pairs l hlen.2 hx
    rw [hps] at hpr
    simp only [EV, EX, hP, reduceIte, Nat.reduceEqDiff, Nat.reduceAdd, Nat.reduceSub, binA, IN, MX, buildA, fillA, faddrA, load_ptr, load_fp, rowOf_eq, packA, TK.isAgg, cellsOf, cellD, boxA, allocA, storeA, putCells, Nat.reduceLeDiff, extA]
    refine callW_pure hP (s_times2 l hlen.2 hok hr) (by simp [plainL, plain, instRows_plain]) (by simp only [plain, intRows_plain]) ?_
    generalize costTimes l = ts at *
    simp only [EV, EX, hP, reduceIte, Nat.reduceEqDiff, Nat.reduceAdd, Nat.reduceSub, binA, IN, MX, buildA, fillA, faddrA, load_ptr, load_fp, rowOf_eq, packA, TK.isAgg, cellsOf, cellD, boxA, allocA, storeA, putCells, Nat.reduceLeDiff, extA]
    refine callW_pure hP hpr (by simp [plainL, plain, instRows_plain]) (pairsD_plain _) ?_
    simp only [EV, EX, hP, reduceIte, Nat.reduceEqDiff, Nat.reduceAdd, Nat.reduceSub, binA, IN, MX, buildA, fillA, faddrA, load_ptr, load_fp, rowOf_eq, packA, TK.isAgg, cellsOf, cellD, boxA, allocA, storeA, putCells, Nat.reduceLeDiff, extA, pairsD, extA, List.getElem?_cons_zero, List.getElem?_cons_succ]
    refine callW_pure hP (s_sum ts hti (by simp [maxL]; omega)) (by simp [plainL, plain, intRows_plain]) rfl ?_
    simp only [EV, EX, hP, reduceIte, Nat.reduceEqDiff, Nat.reduceAdd, Nat.reduceSub, binA, IN, MX, buildA, fillA, faddrA, load_ptr, load_fp, rowOf_eq, packA, TK.isAgg, cellsOf, cellD, boxA, allocA, storeA, putCells, Nat.reduceLeDiff, extA, ty75, ty2, cells_int, List.length_cons, List.length_nil, len_fz ty34, instRows_length]
    refine LoopW.by (fun i => ⟨[(26, some (.int .i64 (i : Nat))), (25, some (.int .i64 l.length)), (24, some (.fz 4 (instRows l))), (2, some (.ptr 0 0 0)), (4, some (.fz 1 (intRows ts))), (5, some (.int .i64 ((costUpto l ts ps i).2.1 : Nat))), (6, some (.fz 1 (intRows ps)))],
      [(0, some (.rows 3 [[.int .i64 (satSum ts), .int .i64 (costUpto l ts ps i).1, .sl 2 1 0 (costUpto l ts ps i).2.2.length]])), (1, some (.rows 2 (spanRows (costUpto l ts ps i).2.2)))], 32⟩) (fun i => i ≤ l.length) (fun i => l.length - i) 0 (Nat.zero_le _) ?_ ?_
    · refine Sub.tell ⟨1, [], [(1, 2)], []⟩ (fun n hn => absurd (hN n hn) (by omega)) rfl ?_ ?_
      · exact ⟨⟨_, rfl, .same _ rfl⟩, ⟨_, rfl, .same _ rfl⟩, ⟨_, rfl, .same _ (by simp only [plain, instRows_plain])⟩, ⟨_, rfl, .ptr 0 0 0 0 rfl⟩, ⟨_, rfl, .same _ (by simp only [plain, intRows_plain])⟩, ⟨_, rfl, .same _ rfl⟩, ⟨_, rfl, .same _ (by simp only [plain, intRows_plain])⟩, trivial⟩
      · refine ⟨.inl ⟨0, _, rfl, by simp, rfl, .rows 3 _ _ rfl ?_ ?_⟩, .inr ⟨2, rfl, rfl⟩, trivial⟩
        · intro i x y hx hy
          match i with
          | 0 => cases hx; cases hy; rfl
          | i + 1 => simp at hx
        · intro i j r s x y hr hs hx hy
          match i with
          | 0 =>
            cases hr; cases hs
            match j with
            | 0 => cases hx; cases hy; exact .same _ rfl
            | 1 => cases hx; cases hy; exact .same _ rfl
            | 2 => cases hx; cases hy; exact .own 2 1 rfl
            | j + 3 => simp at hx
          | i + 1 => simp at hr
    · intro i hi N hN'
      simp only [EV, EX, hP, reduceIte, Nat.reduceEqDiff, Nat.reduceAdd, Nat.reduceSub, binA, IN]
      refine condS_d (fun h2 => ?_) (fun h2 => ?_)
      · have hi2 : i < l.length := by omega
        have hb : (0 : Int) ≤ i ∧ (i : Int) < l.length := by omega
        have w1 : IntKind.i64.wrap ((i : Int) + 1) = i + 1 := wrap_i64 (by omega) (by omega)
        simp only [EV, EX, hP, reduceIte, Nat.reduceEqDiff, Nat.reduceAdd, Nat.reduceSub, binA, IN, MX, buildA, fillA, faddrA, load_ptr, load_fp, rowOf_eq, packA, TK.isAgg, cellsOf, cellD, boxA, allocA, storeA, putCells, Nat.reduceLeDiff, extA, iaddr_fz, elSize_eq ty34 ty60, instRows_length, hb, instRows_getD hi2, Inst.row, ty60, ty3]
        have hfr := costUpto_from (l := l) (ts := ts) (ps := ps) i
        have hsp := costUpto_spans (l := l) (ts := ts) (ps := ps) i
        have hs : costUpto l ts ps (i + 1) = if (nth l i).op = 11 ∨ (nth l i).op = 0 then ((max (costUpto l ts ps i).1 (between ts (costUpto l ts ps i).2.1 (i + 1)) : Int), i + 1, (costUpto l ts ps i).2.2)
          else if (nth l i).op = 9 then ((costUpto l ts ps i).1, (costUpto l ts ps i).2.1, (costUpto l ts ps i).2.2 ++ [((nth l i).a, (between ts (i + 1) ((ps.getD i 0).toNat + 1)).tdiv (ts.getD i 0))]) else costUpto l ts ps i := rfl
        rw [nth_get hi2] at hs
        have hcost : ∃ u, u = costUpto l ts ps i := ⟨_, rfl⟩
        obtain ⟨u, hu⟩ := hcost
        simp only [← hu] at hfr hsp hs ⊢
        have hfin : ∀ (S : St) (c : Int × Nat × List (Int × Int)) (nm : Nat), costUpto l ts ps (i + 1) = c → S.get 26 = some (.int .i64 ((i : Int) + 1)) → S.get 25 = some (.int .i64 l.length) → S.get 24 = some (.fz 4 (instRows l)) → S.get 2 = some (.ptr 0 0 0) → S.get 4 = some (.fz 1 (intRows ts)) →
            S.get 5 = some (.int .i64 (c.2.1 : Nat)) → S.get 6 = some (.fz 1 (intRows ps)) → S.blk 0 = some (.rows 3 [[.int .i64 (satSum ts), .int .i64 c.1, .sl 2 nm 0 c.2.2.length]]) → S.blk nm = some (.rows 2 (spanRows c.2.2)) →
            ∀ M : Nm, (∀ n, C.N0 n → n < M.q) → M.ok S.nx 32 = true → M.Z = [] → M.new 0 = some 0 → M.new nm = some 1 → N S := by
          intro S c nm hc g1 g2 g3 g4 g5 g6 g7 b0 b1 M m0 m1 m2 m3 m4
          refine hN' _ (i + 1) hi2 (by omega) ?_
          rw [hc]
          refine Sub.tell M m0 m1 ?_ ?_
          · exact ⟨⟨_, g1, by rw [show (((i + 1 : Nat)) : Int) = i + 1 from by omega]; exact .same _ rfl⟩, ⟨_, g2, .same _ rfl⟩, ⟨_, g3, .same _ (by simp only [plain, instRows_plain])⟩, ⟨_, g4, .ptr 0 0 0 0 m3⟩, ⟨_, g5, .same _ (by simp only [plain, intRows_plain])⟩, ⟨_, g6, .same _ rfl⟩, ⟨_, g7, .same _ (by simp only [plain, intRows_plain])⟩, trivial⟩
          · refine ⟨.inl ⟨0, _, m3, by simp [m2], b0, .rows 3 _ _ rfl ?_ ?_⟩, .inl ⟨nm, _, m4, by simp [m2], b1, lowB_same (spanRows_plain _)⟩, trivial⟩
            · intro i x y hx hy
              match i with
              | 0 => cases hx; cases hy; rfl
              | i + 1 => simp at hx
            · intro i j r s x y hr hs hx hy
              match i with
              | 0 =>
                cases hr; cases hs
                match j with
                | 0 => cases hx; cases hy; exact .same _ rfl
                | 1 => cases hx; cases hy; exact .same _ rfl
                | 2 => cases hx; cases hy; exact .sl 2 nm 1 0 _ m4
                | j + 3 => simp at hx
              | i + 1 => simp at hr
        have hcase : (l[i].op = 11 ∨ ¬ l[i].op = 11 ∧ l[i].op = 0) ∨ ¬ l[i].op = 11 ∧ ¬ l[i].op = 0 := by omega
        rcases hcase with hcase | ⟨h11, h0⟩
        · have hst : costUpto l ts ps (i + 1) = ((max u.1 (between ts u.2.1 (i + 1)) : Int), i + 1, u.2.2) := by rw [hs, if_pos (by omega)]
          have hz0 : ((0 : Int) ≤ (u.2.1 : Int)) = True := by simp
          have hz1 : ((0 : Int) ≤ (i : Int) + 1) = True := by simp; omega
          have hz2 : ((i : Int) + 1).toNat = i + 1 := by omega
          have hz3 : (u.2.1 ≤ i + 1) = True := by simp; omega
          have hz4 : (i + 1 ≤ ts.length) = True := by simp; omega
          have hmx : (if satSum ((ts.take (i + 1)).drop u.2.1) > u.1 then satSum ((ts.take (i + 1)).drop u.2.1) else u.1) = max u.1 (between ts u.2.1 (i + 1)) := by unfold between; omega
          have hti2 : ∀ n ∈ (ts.take (i + 1)).drop u.2.1, i64r n := fun n hn => hti n (List.mem_of_mem_take (List.mem_of_mem_drop hn))
          rcases hcase with h11 | ⟨h11, h0⟩ <;>
          (simp only [h11, decide_true, decide_false]
           simp only [EV, EX, hP, reduceIte, Nat.reduceEqDiff, Nat.reduceAdd, Nat.reduceSub, binA, IN, DR, DX, Nat.reduceMul, keysU, MX, buildA, fillA, faddrA, load_ptr, load_fp, rowOf_eq, packA, TK.isAgg, cellsOf, cellD, boxA, allocA, storeA, putCells, Nat.reduceLeDiff, extA, ty75, ty2, w1, sliceA, elSize_eq ty26 ty2, bnd, hz0, hz1, hz2, hz3, hz4, intRows_length, Option.isSome_none, Bool.false_eq_true, false_implies, true_and, and_true, if_true, btw_rows]
           try (simp only [h0, decide_true, EV, EX, hP, reduceIte, Nat.reduceEqDiff, Nat.reduceAdd, Nat.reduceSub, binA, IN, DR, DX, Nat.reduceMul, keysU, MX, buildA, fillA, faddrA, load_ptr, load_fp, rowOf_eq, packA, TK.isAgg, cellsOf, cellD, boxA, allocA, storeA, putCells, Nat.reduceLeDiff, extA, ty75, ty2, w1, sliceA, elSize_eq ty26 ty2, bnd, hz0, hz1, hz2, hz3, hz4, intRows_length, Option.isSome_none, Bool.false_eq_true, false_implies, true_and, and_true, if_true, btw_rows])
           refine callD_pure hP (s_sum _ hti2 (by simp [maxL]; omega)) (by simp [plainL, plain, intRows_plain]) rfl ?_
           simp only [EV, EX, hP, reduceIte, Nat.reduceEqDiff, Nat.reduceAdd, Nat.reduceSub, binA, IN, DR, DX, Nat.reduceMul, keysU, MX, buildA, fillA, faddrA, load_ptr, load_fp, rowOf_eq, packA, TK.isAgg, cellsOf, cellD, boxA, allocA, storeA, putCells, Nat.reduceLeDiff, extA, ty75, ty2, maxA, drF_eq, cells_int, List.length_cons, List.length_nil, hmx, w1]
           refine ⟨by kernel_rfl, ?_⟩
           exact hfin _ _ 1 hst rfl rfl rfl rfl rfl rfl rfl rfl rfl ⟨2, [], [], []⟩ (fun n hn => absurd (hN n hn) (by omega)) rfl rfl rfl rfl)
        · simp only [h11, decide_false]
          simp only [EV, EX, hP, reduceIte, Nat.reduceEqDiff, Nat.reduceAdd, Nat.reduceSub, binA, IN]
          simp only [h0, decide_false]
          simp only [EV, EX, hP, reduceIte, Nat.reduceEqDiff, Nat.reduceAdd, Nat.reduceSub, binA, IN]
          refine condS_d (fun h9 => ?_) (fun h9 => ?_)
          · have hst : costUpto l ts ps (i + 1) = (u.1, u.2.1, u.2.2 ++ [(l[i].a, (between ts (i + 1) ((ps.getD i 0).toNat + 1)).tdiv (ts.getD i 0))]) := by rw [hs, if_neg (by omega), if_pos h9]
            obtain ⟨hp1, hp2⟩ := hpk i hi2 (by rw [nth_get hi2]; exact h9)
            have hip : i < ps.length := by omega
            have hit : i < ts.length := by omega
            have ep : ps.getD i 0 = ps[i] := by simp [List.getD_eq_getElem?_getD, hip]
            have et : ts.getD i 0 = ts[i] := by simp [List.getD_eq_getElem?_getD, hit]
            rw [ep] at hp1 hp2
            rw [ep, et] at hst
            obtain ⟨p, hp⟩ : ∃ p : Nat, ps[i] = (p : Int) := ⟨ps[i].toNat, by omega⟩
            rw [hp] at hp1 hp2 hst
            rw [Int.toNat_natCast] at hst
            have hbp : (0 : Int) ≤ i ∧ (i : Int) < ps.length := by omega
            have hbt : (0 : Int) ≤ i ∧ (i : Int) < ts.length := by omega
            have w2 : IntKind.i64.wrap ((p : Int) + 1) = p + 1 := wrap_i64 (by omega) (by omega)
            have hz1 : ((0 : Int) ≤ (i : Int) + 1) = True := by simp; omega
            have hz2 : ((i : Int) + 1).toNat = i + 1 := by omega
            have hz3 : ((0 : Int) ≤ (p : Int) + 1) = True := by simp; omega
            have hz4 : ((p : Int) + 1).toNat = p + 1 := by omega
            have hz5 : (i + 1 ≤ p + 1) = True := by simp; omega
            have hz6 : (p + 1 ≤ ts.length) = True := by simp; omega
            have hti2 : ∀ n ∈ (ts.take (p + 1)).drop (i + 1), i64r n := fun n hn => hti n (List.mem_of_mem_take (List.mem_of_mem_drop hn))
            have ht1 := hpos ts[i] (List.getElem_mem hit)
            have hne : ¬ ts[i] = 0 := by omega
            have hbn := between_nonneg hpos (i + 1) (p + 1)
            have hbi := between_i64 ts (i + 1) (p + 1)
            have w3 : IntKind.i64.wrap ((satSum ((ts.take (p + 1)).drop (i + 1))).tdiv ts[i]) = (between ts (i + 1) (p + 1)).tdiv ts[i] := by
              show IntKind.i64.wrap ((between ts (i + 1) (p + 1)).tdiv ts[i]) = _
              unfold i64r at hbi
              have h1 : 0 ≤ (between ts (i + 1) (p + 1)).tdiv ts[i] := Int.tdiv_nonneg hbn (by omega)
              have h2 : (between ts (i + 1) (p + 1)).tdiv ts[i] ≤ between ts (i + 1) (p + 1) := by
                rw [Int.tdiv_eq_ediv_of_nonneg hbn]
                exact Int.ediv_le_self _ hbn
              exact wrap_i64 (by omega) (by omega)
            have hle : u.2.2.length ≤ (spanRows u.2.2).length := by rw [spanRows_length]; exact Nat.le_refl _
            have hroom : ((u.2.2.length : Int) + ((1 : Nat) : Int)) * ((16 : Nat) : Int) ≤ 140737488355328 := by omega
            have htk : (spanRows u.2.2).take u.2.2.length = spanRows u.2.2 := List.take_of_length_le (by rw [spanRows_length]; exact Nat.le_refl _)
            simp only [EV, EX, hP, reduceIte, Nat.reduceEqDiff, Nat.reduceAdd, Nat.reduceSub, binA, IN, DR, DX, Nat.reduceMul, keysU, MX, buildA, fillA, faddrA, load_ptr, load_fp, rowOf_eq, packA, TK.isAgg, cellsOf, cellD, boxA, allocA, storeA, putCells, Nat.reduceLeDiff, extA, ty75, ty44, ty60, ty3, ty2, iaddr_fz, elSize_eq ty94 ty3, elSize_eq ty26 ty2, intRows_length, hbp, hbt, intRows_getD hip, intRows_getD hit, hp, w1, w2, sliceA, bnd, hz1, hz2, hz3, hz4, hz5, hz6, Option.isSome_none, Option.isSome_some, Bool.false_eq_true, false_implies, implies_true, true_and, and_true, if_true, btw_rows]
            refine callD_pure hP (s_sum _ hti2 (by simp [maxL]; omega)) (by simp [plainL, plain, intRows_plain]) rfl ?_
            simp only [EV, EX, hP, reduceIte, Nat.reduceEqDiff, Nat.reduceAdd, Nat.reduceSub, binA, IN, DR, DX, Nat.reduceMul, keysU, MX, buildA, fillA, faddrA, load_ptr, load_fp, rowOf_eq, packA, TK.isAgg, cellsOf, cellD, boxA, allocA, storeA, putCells, Nat.reduceLeDiff, extA, ty75, ty44, ty60, ty3, ty2, iaddr_fz, elSize_eq ty94 ty3, elSize_eq ty26 ty2, intRows_length, hbp, hbt, intRows_getD hip, intRows_getD hit, hne, if_false, w3, ty73, cells_int, cells_agg, List.length_cons, List.length_nil, bslA, elTI_eq ty44, setRows, List.replicate_succ, List.replicate_zero, List.getD_cons_zero, Nat.reduceLT, Nat.reduceMul, true_and, and_true,
              appA, rowsOf, hle, hroom, htk, drF_eq]
            refine ⟨by kernel_rfl, ?_⟩
            simp only [EV, EX, hP, reduceIte, Nat.reduceEqDiff, Nat.reduceAdd, Nat.reduceSub, binA, IN, w1]
            have e1 : u.2.2.length + 1 = (u.2.2 ++ [(l[i].a, (between ts (i + 1) (p + 1)).tdiv ts[i])]).length := by simp
            have e2 : spanRows u.2.2 ++ [[.int .i64 l[i].a, .int .i64 ((between ts (i + 1) (p + 1)).tdiv ts[i])]] = spanRows (u.2.2 ++ [(l[i].a, (between ts (i + 1) (p + 1)).tdiv ts[i])]) := by rw [spanRows_append]; rfl
            rw [e1, e2]
            exact hfin _ _ 608 hst rfl rfl rfl rfl rfl rfl rfl rfl rfl ⟨1, [(608, 1)], [], []⟩ (fun n hn => absurd (hN n hn) (by omega)) rfl rfl rfl rfl
          · simp only [EV, EX, hP, reduceIte, Nat.reduceEqDiff, Nat.reduceAdd, Nat.reduceSub, binA, IN, w1]
            exact hfin _ u 1 (by rw [hs, if_neg (by omega), if_neg h9]) rfl rfl rfl rfl rfl rfl rfl rfl rfl ⟨2, [], [], []⟩ (fun n hn => absurd (hN n hn) (by omega)) rfl rfl rfl rfl
      · have hi2 : i = l.length := by omega
        subst hi2
        simp only [EV, EX, hP, reduceIte, Nat.reduceEqDiff, Nat.reduceAdd, Nat.reduceSub, binA, IN, MX, buildA, fillA, faddrA, load_ptr, load_fp, rowOf_eq, packA, TK.isAgg, cellsOf, cellD, boxA, allocA, storeA, putCells, Nat.reduceLeDiff, extA, ty75]
        generalize costUpto l ts ps l.length = u at *
        refine hQ _ ⟨⟨0, [], [], [1]⟩, [.agg [.int .i64 (satSum ts), .int .i64 u.1, .sl 2 1 0 u.2.2.length], .bool true], [.agg [.int .i64 (satSum ts), .int .i64 u.1, .fz 2 (spanRows u.2.2)], .bool true], [], by simp only [resD, EV, EX, hP, reduceIte, Nat.reduceEqDiff, Nat.reduceAdd, Nat.reduceSub, MX, buildA, fillA, faddrA, load_ptr, load_fp, rowOf_eq, packA, TK.isAgg, cellsOf, cellD, boxA, allocA, storeA, putCells, Nat.reduceLeDiff, extA, ty75]; rfl, Nat.le_refl _, rfl,
          .cons _ _ _ _ (.agg _ _ rfl ?_) (.cons _ _ _ _ (.same _ rfl) .nil), trivial, rfl, rfl⟩
        intro j x y hx hy
        match j with
        | 0 => cases hx; cases hy; exact .same _ rfl
        | 1 => cases hx; cases hy; exact .same _ rfl
        | 2 => cases hx; cases hy; exact Tl.frzAll (by simp) rfl (by rw [spanRows_length]) (spanRows_plain _) (spanRows_rows _)
        | j + 3 => simp at hx
end Go.Fv
/- MADE BY PROGRAM (wip/tools/codes.py). -/
namespace Go.Fv
open Go.Proofs
def c3 : SC :=
(.seq
(.rg [⟨(some 6), (.mv (.c (.bool false))), none⟩])
(.seq
(.seq
(.rg [⟨(some 20), (.call (.c (.fn 13 [] [])) []), none⟩, ⟨(some 21), (.un .not (.t 20)), none⟩])
(.cond (.t 21)
(.seq
(.rg [⟨(some 6), (.mv (.c (.bool false))), none⟩])
.ret)
.skip))
(.seq
(.seq
(.rg [⟨(some 22), (.mv (.t 0)), none⟩, ⟨(some 23), (.len 22 (.t 22)), none⟩, ⟨(some 24), (.bin .gtr 3 (.t 23) (.c (.int .i64 250))), none⟩])
(.cond (.t 24)
(.seq
(.rg [⟨(some 6), (.mv (.c (.bool true))), none⟩])
.ret)
.skip))
(.seq
(.rg [⟨(some 25), (.mv (.t 0)), none⟩, ⟨(some 26), (.call (.c (.fn 14 [] [])) [(.t 25), (.c (.int .i64 5))]), none⟩, ⟨(some 7), (.mv (.t 26)), none⟩])
(.seq
(.rg [⟨(some 27), (.mv (.t 1)), none⟩, ⟨(some 28), (.bsl 26 6 [(0, (.t 27)), (1, (.c (.int .i64 1))), (2, (.c (.int .i64 10))), (3, (.c (.int .i64 40))), (4, (.c (.int .i64 1000))), (5, (.c (.int .i64 4611686018427387904)))]), none⟩, ⟨(some 8), (.mv (.t 28)), none⟩])
(.seq
(.seq
(.rg [⟨(some 9), (.mv (.c (.int .i64 0))), none⟩])
(.block 0
(.loop
(.seq
(.seq
(.rg [⟨(some 29), (.mv (.t 9)), none⟩, ⟨(some 30), (.mv (.t 8)), none⟩, ⟨(some 31), (.len 26 (.t 30)), none⟩, ⟨(some 32), (.bin .lss 3 (.t 29) (.t 31)), none⟩])
(.cond (.t 32)
.skip
(.exit 0)))
(.seq
(.block 1
(.seq
(.rg [⟨(some 10), (.mv (.c (.int .i64 (-1)))), none⟩])
(.block 2
(.loop
(.seq
(.seq
(.rg [⟨(some 35), (.mv (.t 10)), none⟩, ⟨(some 36), (.mv (.t 7)), none⟩, ⟨(some 37), (.len 24 (.t 36)), none⟩, ⟨(some 38), (.bin .leq 3 (.t 35) (.t 37)), none⟩])
(.cond (.t 38)
.skip
(.exit 2)))
(.seq
(.block 3
(.seq
(.rg [⟨(some 42), (.mv (.t 7)), none⟩, ⟨(some 43), (.mv (.t 10)), none⟩, ⟨(some 44), (.mv (.t 8)), none⟩, ⟨(some 45), (.mv (.t 9)), none⟩, ⟨(some 46), (.iaddr 26 (.t 44) (.t 45)), none⟩, ⟨(some 47), (.load 2 (.t 46)), none⟩, ⟨(some 48), (.call (.c (.fn 15 [] [])) [(.t 42), (.t 43), (.t 47)]), none⟩, ⟨(some 41), (.mv (.t 48)), none⟩, ⟨(some 49), (.ext (.t 41) 0), none⟩, ⟨(some 50), (.ext (.t 41) 1), none⟩, ⟨(some 51), (.ext (.t 41) 2), none⟩, ⟨(some 11), (.mv (.t 49)), none⟩, ⟨(some 12), (.mv (.t 50)), none⟩, ⟨(some 13), (.mv (.t 51)), none⟩])
(.seq
(.rg [⟨(some 53), (.mv (.t 7)), none⟩, ⟨(some 54), (.mv (.t 10)), none⟩, ⟨(some 55), (.mv (.t 8)), none⟩, ⟨(some 56), (.mv (.t 9)), none⟩, ⟨(some 57), (.iaddr 26 (.t 55) (.t 56)), none⟩, ⟨(some 58), (.load 2 (.t 57)), none⟩, ⟨(some 59), (.call (.c (.fn 16 [] [])) [(.t 53), (.t 54), (.t 58)]), none⟩, ⟨(some 52), (.mv (.t 59)), none⟩, ⟨(some 60), (.ext (.t 52) 0), none⟩, ⟨(some 61), (.ext (.t 52) 1), none⟩, ⟨(some 62), (.ext (.t 52) 2), none⟩, ⟨(some 14), (.mv (.t 60)), none⟩, ⟨(some 15), (.mv (.t 61)), none⟩, ⟨(some 16), (.mv (.t 62)), none⟩])
(.seq
(.rg [⟨(some 63), (.mv (.t 11)), none⟩, ⟨(some 64), (.mv (.t 14)), none⟩, ⟨(some 65), (.bin .neq 2 (.t 63) (.t 64)), none⟩, ⟨(some 66), (.mv (.t 65)), none⟩, ⟨(some 67), (.mv (.t 12)), (some (66, false))⟩, ⟨(some 68), (.mv (.t 15)), (some (66, false))⟩, ⟨(some 69), (.bin .neq 3 (.t 67) (.t 68)), (some (66, false))⟩, ⟨(some 70), (.pick (.t 66) (.c (.bool true)) (.t 69)), none⟩, ⟨(some 71), (.mv (.t 70)), none⟩, ⟨(some 72), (.mv (.t 13)), (some (71, false))⟩, ⟨(some 73), (.mv (.t 16)), (some (71, false))⟩, ⟨(some 74), (.bin .neq 27 (.t 72) (.t 73)), (some (71, false))⟩, ⟨(some 75), (.pick (.t 71) (.c (.bool true)) (.t 74)), none⟩])
(.cond (.t 75)
(.seq
(.rg [⟨(some 6), (.mv (.c (.bool false))), none⟩])
.ret)
.skip)))))
(.rg [⟨(some 39), (.mv (.t 10)), none⟩, ⟨(some 40), (.bin .add 3 (.t 39) (.c (.int .i64 1))), none⟩, ⟨(some 10), (.mv (.t 40)), none⟩])))))))
(.rg [⟨(some 33), (.mv (.t 9)), none⟩, ⟨(some 34), (.bin .add 3 (.t 33) (.c (.int .i64 1))), none⟩, ⟨(some 9), (.mv (.t 34)), none⟩]))))))
(.seq
(.rg [⟨(some 77), (.mv (.t 7)), none⟩, ⟨(some 78), (.mv (.t 2)), none⟩, ⟨(some 79), (.call (.c (.fn 15 [] [])) [(.t 77), (.t 78), (.c (.int .i64 0))]), none⟩, ⟨(some 76), (.mv (.t 79)), none⟩, ⟨(some 80), (.ext (.t 76) 0), none⟩, ⟨(some 81), (.ext (.t 76) 1), none⟩, ⟨(some 82), (.ext (.t 76) 2), none⟩, ⟨(some 17), (.mv (.t 80)), none⟩, ⟨(some 18), (.mv (.t 81)), none⟩, ⟨(some 19), (.mv (.t 82)), none⟩])
(.seq
(.rg [⟨(some 83), (.mv (.t 19)), none⟩, ⟨(some 84), (.bin .eql 27 (.t 83) (.c (.int .i64 1))), none⟩, ⟨(some 6), (.mv (.t 84)), none⟩])
.ret))))))))
def c4 : SC :=
(.seq
(.rg [⟨(some 4), (.mv (.c (.bool false))), none⟩])
(.seq
(.seq
(.rg [⟨(some 15), (.call (.c (.fn 13 [] [])) []), none⟩, ⟨(some 16), (.un .not (.t 15)), none⟩])
(.cond (.t 16)
(.seq
(.rg [⟨(some 4), (.mv (.c (.bool false))), none⟩])
.ret)
.skip))
(.seq
(.seq
(.rg [⟨(some 17), (.mv (.t 0)), none⟩, ⟨(some 18), (.len 22 (.t 17)), none⟩, ⟨(some 19), (.bin .gtr 3 (.t 18) (.c (.int .i64 200))), none⟩])
(.cond (.t 19)
(.seq
(.rg [⟨(some 4), (.mv (.c (.bool true))), none⟩])
.ret)
.skip))
(.seq
(.rg [⟨(some 20), (.mv (.t 0)), none⟩, ⟨(some 21), (.call (.c (.fn 14 [] [])) [(.t 20), (.c (.int .i64 4))]), none⟩, ⟨(some 5), (.mv (.t 21)), none⟩])
(.seq
(.seq
(.rg [⟨(some 6), (.mv (.c (.int .i64 0))), none⟩])
(.block 0
(.loop
(.seq
(.seq
(.rg [⟨(some 22), (.mv (.t 6)), none⟩, ⟨(some 23), (.mv (.t 5)), none⟩, ⟨(some 24), (.len 24 (.t 23)), none⟩, ⟨(some 25), (.bin .lss 3 (.t 22) (.t 24)), none⟩])
(.cond (.t 25)
.skip
(.exit 0)))
(.seq
(.block 1
(.seq
(.rg [⟨(some 29), (.mv (.t 5)), none⟩, ⟨(some 30), (.mv (.t 6)), none⟩, ⟨(some 31), (.mv (.t 1)), none⟩, ⟨(some 32), (.conv 5 2 (.t 31)), none⟩, ⟨(some 33), (.bin .add 2 (.c (.int .i64 1)) (.t 32)), none⟩, ⟨(some 34), (.call (.c (.fn 15 [] [])) [(.t 29), (.t 30), (.t 33)]), none⟩, ⟨(some 28), (.mv (.t 34)), none⟩, ⟨(some 35), (.ext (.t 28) 0), none⟩, ⟨(some 36), (.ext (.t 28) 1), none⟩, ⟨(some 37), (.ext (.t 28) 2), none⟩, ⟨(some 7), (.mv (.t 35)), none⟩, ⟨(some 8), (.mv (.t 36)), none⟩, ⟨(some 9), (.mv (.t 37)), none⟩])
(.seq
(.rg [⟨(some 10), (.mv (.c (.int .i64 0))), none⟩])
(.seq
(.rg [⟨(some 38), (.mv (.t 5)), none⟩, ⟨(some 39), (.mv (.t 6)), none⟩, ⟨(some 40), (.call (.c (.fn 17 [] [])) [(.t 38), (.t 39)]), none⟩, ⟨(some 11), (.alloc 32), none⟩, ⟨none, (.store 32 (.t 11) (.t 40)), none⟩])
(.seq
(.seq
(.rg [⟨(some 12), (.mv (.c (.int .i64 1))), none⟩])
(.block 2
(.loop
(.seq
(.seq
(.rg [⟨(some 41), (.mv (.t 12)), none⟩, ⟨(some 42), (.mv (.t 5)), none⟩, ⟨(some 43), (.mv (.t 6)), none⟩, ⟨(some 44), (.iaddr 24 (.t 42) (.t 43)), none⟩, ⟨(some 45), (.faddr 36 (.t 44) 2), none⟩, ⟨(some 46), (.load 2 (.t 45)), none⟩, ⟨(some 47), (.bin .leq 2 (.t 41) (.t 46)), none⟩, ⟨(some 48), (.mv (.t 47)), none⟩, ⟨(some 49), (.mv (.t 10)), (some (48, true))⟩, ⟨(some 50), (.bin .eql 2 (.t 49) (.c (.int .i64 0))), (some (48, true))⟩, ⟨(some 51), (.pick (.t 48) (.t 50) (.c (.bool false))), none⟩])
(.cond (.t 51)
.skip
(.exit 2)))
(.seq
(.block 3
(.seq
(.rg [⟨(some 55), (.load 32 (.t 11)), none⟩, ⟨(some 56), (.mv (.t 1)), none⟩, ⟨(some 57), (.conv 5 2 (.t 56)), none⟩, ⟨(some 58), (.bin .add 2 (.c (.int .i64 1)) (.t 57)), none⟩, ⟨(some 59), (.mv (.t 12)), none⟩, ⟨(some 60), (.call (.c (.fn 18 [] [])) [(.t 55), (.t 58), (.t 59)]), none⟩, ⟨(some 54), (.mv (.t 60)), none⟩, ⟨(some 61), (.ext (.t 54) 0), none⟩, ⟨(some 62), (.ext (.t 54) 1), none⟩, ⟨(some 13), (.mv (.t 61)), none⟩, ⟨(some 14), (.mv (.t 62)), none⟩])
(.seq
(.rg [⟨(some 63), (.mv (.t 14)), none⟩, ⟨(some 64), (.mv (.t 63)), none⟩, ⟨(some 65), (.mv (.t 13)), (some (64, true))⟩, ⟨(some 66), (.mv (.t 12)), (some (64, true))⟩, ⟨(some 67), (.bin .eql 2 (.t 65) (.t 66)), (some (64, true))⟩, ⟨(some 68), (.pick (.t 64) (.t 67) (.c (.bool false))), none⟩])
(.cond (.t 68)
(.rg [⟨(some 69), (.mv (.t 12)), none⟩, ⟨(some 10), (.mv (.t 69)), none⟩])
.skip))))
(.rg [⟨(some 52), (.mv (.t 12)), none⟩, ⟨(some 53), (.bin .add 2 (.t 52) (.c (.int .i64 1))), none⟩, ⟨(some 12), (.mv (.t 53)), none⟩]))))))
(.seq
(.rg [⟨(some 70), (.mv (.t 10)), none⟩, ⟨(some 71), (.bin .eql 2 (.t 70) (.c (.int .i64 0))), none⟩, ⟨(some 72), (.mv (.t 71)), none⟩, ⟨(some 73), (.mv (.t 9)), (some (72, true))⟩, ⟨(some 74), (.bin .neq 27 (.t 73) (.c (.int .i64 14))), (some (72, true))⟩, ⟨(some 75), (.mv (.t 74)), (some (72, true))⟩, ⟨(some 76), (.mv (.t 7)), (some (75, false))⟩, ⟨(some 77), (.bin .neq 2 (.t 76) (.c (.int .i64 0))), (some (75, false))⟩, ⟨(some 78), (.pick (.t 75) (.c (.bool true)) (.t 77)), (some (72, true))⟩, ⟨(some 79), (.mv (.t 78)), (some (72, true))⟩, ⟨(some 80), (.mv (.t 8)), (some (79, false))⟩, ⟨(some 81), (.bin .neq 3 (.t 80) (.c (.int .i64 0))), (some (79, false))⟩, ⟨(some 82), (.pick (.t 79) (.c (.bool true)) (.t 81)), (some (72, true))⟩, ⟨(some 83), (.pick (.t 72) (.t 82) (.c (.bool false))), none⟩, ⟨(some 84), (.mv (.t 83)), none⟩, ⟨(some 85), (.mv (.t 10)), (some (84, false))⟩, ⟨(some 86), (.bin .gtr 2 (.t 85) (.c (.int .i64 0))), (some (84, false))⟩, ⟨(some 87), (.mv (.t 86)), (some (84, false))⟩, ⟨(some 88), (.mv (.t 9)), (some (87, true))⟩, ⟨(some 89), (.bin .neq 27 (.t 88) (.c (.int .i64 0))), (some (87, true))⟩, ⟨(some 90), (.mv (.t 89)), (some (87, true))⟩, ⟨(some 91), (.mv (.t 7)), (some (90, false))⟩, ⟨(some 92), (.mv (.t 10)), (some (90, false))⟩, ⟨(some 93), (.bin .neq 2 (.t 91) (.t 92)), (some (90, false))⟩, ⟨(some 94), (.pick (.t 90) (.c (.bool true)) (.t 93)), (some (87, true))⟩, ⟨(some 95), (.mv (.t 94)), (some (87, true))⟩, ⟨(some 96), (.mv (.t 8)), (some (95, false))⟩, ⟨(some 97), (.bin .lss 3 (.t 96) (.c (.int .i64 1))), (some (95, false))⟩, ⟨(some 98), (.pick (.t 95) (.c (.bool true)) (.t 97)), (some (87, true))⟩, ⟨(some 99), (.mv (.t 98)), (some (87, true))⟩, ⟨(some 100), (.mv (.t 8)), (some (99, false))⟩, ⟨(some 101), (.mv (.t 5)), (some (99, false))⟩, ⟨(some 102), (.mv (.t 6)), (some (99, false))⟩, ⟨(some 103), (.iaddr 24 (.t 101) (.t 102)), (some (99, false))⟩, ⟨(some 104), (.faddr 36 (.t 103) 2), (some (99, false))⟩, ⟨(some 105), (.load 2 (.t 104)), (some (99, false))⟩, ⟨(some 106), (.bin .add 2 (.t 105) (.c (.int .i64 1))), (some (99, false))⟩, ⟨(some 107), (.bin .gtr 2 (.t 100) (.t 106)), (some (99, false))⟩, ⟨(some 108), (.pick (.t 99) (.c (.bool true)) (.t 107)), (some (87, true))⟩, ⟨(some 109), (.pick (.t 87) (.t 108) (.c (.bool false))), (some (84, false))⟩, ⟨(some 110), (.pick (.t 84) (.c (.bool true)) (.t 109)), none⟩])
(.cond (.t 110)
(.seq
(.rg [⟨(some 4), (.mv (.c (.bool false))), none⟩])
.ret)
.skip)))))))
(.rg [⟨(some 26), (.mv (.t 6)), none⟩, ⟨(some 27), (.bin .add 3 (.t 26) (.c (.int .i64 1))), none⟩, ⟨(some 6), (.mv (.t 27)), none⟩]))))))
(.seq
(.rg [⟨(some 4), (.mv (.c (.bool true))), none⟩])
.ret))))))
def c5 : SC :=
(.seq
(.rg [⟨(some 6), (.mv (.c (.bool false))), none⟩])
(.seq
(.seq
(.rg [⟨(some 24), (.call (.c (.fn 13 [] [])) []), none⟩, ⟨(some 25), (.un .not (.t 24)), none⟩])
(.cond (.t 25)
(.seq
(.rg [⟨(some 6), (.mv (.c (.bool false))), none⟩])
.ret)
.skip))
(.seq
(.seq
(.rg [⟨(some 26), (.mv (.t 0)), none⟩, ⟨(some 27), (.len 22 (.t 26)), none⟩, ⟨(some 28), (.bin .gtr 3 (.t 27) (.c (.int .i64 200))), none⟩])
(.cond (.t 28)
(.seq
(.rg [⟨(some 6), (.mv (.c (.bool true))), none⟩])
.ret)
.skip))
(.seq
(.rg [⟨(some 29), (.mv (.t 0)), none⟩, ⟨(some 30), (.call (.c (.fn 14 [] [])) [(.t 29), (.c (.int .i64 4))]), none⟩, ⟨(some 7), (.mv (.t 30)), none⟩])
(.seq
(.seq
(.rg [⟨(some 31), (.mv (.t 7)), none⟩, ⟨(some 32), (.len 24 (.t 31)), none⟩, ⟨(some 33), (.bin .lss 3 (.t 32) (.c (.int .i64 2))), none⟩])
(.cond (.t 33)
(.seq
(.rg [⟨(some 6), (.mv (.c (.bool true))), none⟩])
.ret)
.skip))
(.seq
(.rg [⟨(some 34), (.mv (.t 7)), none⟩, ⟨(some 35), (.len 24 (.t 34)), none⟩, ⟨(some 36), (.bin .sub 3 (.t 35) (.c (.int .i64 1))), none⟩, ⟨(some 8), (.mv (.t 36)), none⟩])
(.seq
(.rg [⟨(some 37), (.mv (.t 1)), none⟩, ⟨(some 38), (.mv (.t 2)), none⟩, ⟨(some 39), (.min (.t 37) (.t 38)), none⟩, ⟨(some 40), (.conv 5 2 (.t 39)), none⟩, ⟨(some 41), (.bin .add 2 (.c (.int .i64 1)) (.t 40)), none⟩, ⟨(some 42), (.mv (.t 1)), none⟩, ⟨(some 43), (.mv (.t 2)), none⟩, ⟨(some 44), (.max (.t 42) (.t 43)), none⟩, ⟨(some 45), (.conv 5 2 (.t 44)), none⟩, ⟨(some 46), (.bin .add 2 (.c (.int .i64 1)) (.t 45)), none⟩, ⟨(some 9), (.mv (.t 41)), none⟩, ⟨(some 10), (.mv (.t 46)), none⟩])
(.seq
(.rg [⟨(some 48), (.mv (.t 7)), none⟩, ⟨(some 49), (.mv (.t 8)), none⟩, ⟨(some 50), (.mv (.t 9)), none⟩, ⟨(some 51), (.call (.c (.fn 15 [] [])) [(.t 48), (.t 49), (.t 50)]), none⟩, ⟨(some 47), (.mv (.t 51)), none⟩, ⟨(some 52), (.ext (.t 47) 0), none⟩, ⟨(some 53), (.ext (.t 47) 1), none⟩, ⟨(some 54), (.ext (.t 47) 2), none⟩, ⟨(some 11), (.mv (.t 52)), none⟩, ⟨(some 12), (.mv (.t 53)), none⟩, ⟨(some 13), (.mv (.t 54)), none⟩])
(.seq
(.seq
(.rg [⟨(some 55), (.mv (.t 13)), none⟩, ⟨(some 56), (.bin .neq 27 (.t 55) (.c (.int .i64 0))), none⟩])
(.cond (.t 56)
(.seq
(.rg [⟨(some 57), (.mv (.t 11)), none⟩, ⟨(some 58), (.bin .eql 2 (.t 57) (.c (.int .i64 0))), none⟩, ⟨(some 6), (.mv (.t 58)), none⟩])
.ret)
.skip))
(.seq
(.rg [⟨(some 60), (.mv (.t 7)), none⟩, ⟨(some 61), (.mv (.t 8)), none⟩, ⟨(some 62), (.mv (.t 10)), none⟩, ⟨(some 63), (.call (.c (.fn 15 [] [])) [(.t 60), (.t 61), (.t 62)]), none⟩, ⟨(some 59), (.mv (.t 63)), none⟩, ⟨(some 64), (.ext (.t 59) 0), none⟩, ⟨(some 65), (.ext (.t 59) 1), none⟩, ⟨(some 66), (.ext (.t 59) 2), none⟩, ⟨(some 14), (.mv (.t 64)), none⟩, ⟨(some 15), (.mv (.t 65)), none⟩, ⟨(some 16), (.mv (.t 66)), none⟩])
(.seq
(.rg [⟨(some 67), (.bsl 24 0 []), none⟩, ⟨(some 68), (.mv (.t 7)), none⟩, ⟨(some 69), (.app 24 24 (.t 67) (.t 68)), none⟩, ⟨(some 17), (.mv (.t 69)), none⟩])
(.seq
(.rg [⟨(some 70), (.mv (.t 17)), none⟩, ⟨(some 71), (.mv (.t 17)), none⟩, ⟨(some 72), (.iaddr 24 (.t 71) (.c (.int .i64 0))), none⟩, ⟨(some 73), (.faddr 36 (.t 72) 1), none⟩, ⟨(some 74), (.load 2 (.t 73)), none⟩, ⟨(some 75), (.bin .mul 2 (.t 74) (.c (.int .i64 2))), none⟩, ⟨(some 76), (.iaddr 24 (.t 70) (.c (.int .i64 0))), none⟩, ⟨(some 77), (.faddr 36 (.t 76) 1), none⟩, ⟨none, (.store 2 (.t 77) (.t 75)), none⟩])
(.seq
(.rg [⟨(some 79), (.mv (.t 17)), none⟩, ⟨(some 80), (.mv (.t 8)), none⟩, ⟨(some 81), (.mv (.t 9)), none⟩, ⟨(some 82), (.call (.c (.fn 15 [] [])) [(.t 79), (.t 80), (.t 81)]), none⟩, ⟨(some 78), (.mv (.t 82)), none⟩, ⟨(some 83), (.ext (.t 78) 0), none⟩, ⟨(some 84), (.ext (.t 78) 1), none⟩, ⟨(some 85), (.ext (.t 78) 2), none⟩, ⟨(some 18), (.mv (.t 83)), none⟩, ⟨(some 19), (.mv (.t 84)), none⟩, ⟨(some 20), (.mv (.t 85)), none⟩])
(.seq
(.rg [⟨(some 87), (.mv (.t 7)), none⟩, ⟨(some 88), (.slice 24 (.t 87) (some (.c (.int .i64 1))) none none), none⟩, ⟨(some 89), (.mv (.t 8)), none⟩, ⟨(some 90), (.bin .sub 3 (.t 89) (.c (.int .i64 1))), none⟩, ⟨(some 91), (.mv (.t 9)), none⟩, ⟨(some 92), (.call (.c (.fn 15 [] [])) [(.t 88), (.t 90), (.t 91)]), none⟩, ⟨(some 86), (.mv (.t 92)), none⟩, ⟨(some 93), (.ext (.t 86) 0), none⟩, ⟨(some 94), (.ext (.t 86) 1), none⟩, ⟨(some 95), (.ext (.t 86) 2), none⟩, ⟨(some 21), (.mv (.t 93)), none⟩, ⟨(some 22), (.mv (.t 94)), none⟩, ⟨(some 23), (.mv (.t 95)), none⟩])
(.seq
(.rg [⟨(some 96), (.mv (.t 16)), none⟩, ⟨(some 97), (.bin .eql 27 (.t 96) (.c (.int .i64 0))), none⟩, ⟨(some 98), (.mv (.t 97)), none⟩, ⟨(some 99), (.mv (.t 14)), (some (98, true))⟩, ⟨(some 100), (.mv (.t 11)), (some (98, true))⟩, ⟨(some 101), (.bin .leq 2 (.t 99) (.t 100)), (some (98, true))⟩, ⟨(some 102), (.pick (.t 98) (.t 101) (.c (.bool false))), none⟩, ⟨(some 103), (.mv (.t 102)), none⟩, ⟨(some 104), (.mv (.t 20)), (some (103, true))⟩, ⟨(some 105), (.bin .eql 27 (.t 104) (.c (.int .i64 0))), (some (103, true))⟩, ⟨(some 106), (.pick (.t 103) (.t 105) (.c (.bool false))), none⟩, ⟨(some 107), (.mv (.t 106)), none⟩, ⟨(some 108), (.mv (.t 18)), (some (107, true))⟩, ⟨(some 109), (.mv (.t 11)), (some (107, true))⟩, ⟨(some 110), (.bin .leq 2 (.t 108) (.t 109)), (some (107, true))⟩, ⟨(some 111), (.pick (.t 107) (.t 110) (.c (.bool false))), none⟩, ⟨(some 112), (.mv (.t 111)), none⟩, ⟨(some 113), (.mv (.t 23)), (some (112, true))⟩, ⟨(some 114), (.bin .eql 27 (.t 113) (.c (.int .i64 0))), (some (112, true))⟩, ⟨(some 115), (.pick (.t 112) (.t 114) (.c (.bool false))), none⟩, ⟨(some 116), (.mv (.t 115)), none⟩, ⟨(some 117), (.mv (.t 21)), (some (116, true))⟩, ⟨(some 118), (.mv (.t 11)), (some (116, true))⟩, ⟨(some 119), (.bin .leq 2 (.t 117) (.t 118)), (some (116, true))⟩, ⟨(some 120), (.pick (.t 116) (.t 119) (.c (.bool false))), none⟩, ⟨(some 6), (.mv (.t 120)), none⟩])
.ret)))))))))))))))
theorem ok5 : FnOk Try.prog 5 c5 121 3 [(.tmp 6)] := .of Try.func5 (by kernel_rfl) (by kernel_rfl) (by kernel_rfl) (by kernel_rfl) (by kernel_rfl) (by decide) (by kernel_rfl)
def c6 : SC :=
(.seq
(.rg [⟨(some 4), (.mv (.c (.bool false))), none⟩])
(.seq
(.seq
(.rg [⟨(some 12), (.call (.c (.fn 13 [] [])) []), none⟩, ⟨(some 13), (.un .not (.t 12)), none⟩])
(.cond (.t 13)
(.seq
(.rg [⟨(some 4), (.mv (.c (.bool false))), none⟩])
.ret)
.skip))
(.seq
(.rg [⟨(some 14), (.mv (.t 0)), none⟩, ⟨(some 15), (.bin .rem 5 (.t 14) (.c (.int .u8 20))), none⟩, ⟨(some 16), (.conv 5 3 (.t 15)), none⟩, ⟨(some 17), (.bin .add 3 (.c (.int .i64 1)) (.t 16)), none⟩, ⟨(some 5), (.mv (.t 17)), none⟩])
(.seq
(.rg [⟨(some 18), (.mv (.t 5)), none⟩, ⟨(some 19), (.call (.c (.fn 19 [] [])) [(.t 18)]), none⟩, ⟨(some 20), (.build 36 [(0, (.c (.int .i64 1))), (1, (.c (.int .i64 200))), (2, (.c (.int .i64 200))), (3, (.t 19))]), none⟩, ⟨(some 21), (.bsl 24 1 [(0, (.t 20))]), none⟩, ⟨(some 6), (.mv (.t 21)), none⟩])
(.seq
(.rg [⟨(some 23), (.mv (.t 6)), none⟩, ⟨(some 24), (.mv (.t 1)), none⟩, ⟨(some 25), (.conv 5 2 (.t 24)), none⟩, ⟨(some 26), (.bin .add 2 (.c (.int .i64 1)) (.t 25)), none⟩, ⟨(some 27), (.call (.c (.fn 15 [] [])) [(.t 23), (.c (.int .i64 0)), (.t 26)]), none⟩, ⟨(some 22), (.mv (.t 27)), none⟩, ⟨(some 28), (.ext (.t 22) 0), none⟩, ⟨(some 29), (.ext (.t 22) 1), none⟩, ⟨(some 30), (.ext (.t 22) 2), none⟩, ⟨(some 7), (.mv (.t 28)), none⟩, ⟨(some 8), (.mv (.t 29)), none⟩, ⟨(some 9), (.mv (.t 30)), none⟩])
(.seq
(.rg [⟨(some 10), (.mv (.c (.int .i64 0))), none⟩])
(.seq
(.seq
(.rg [⟨(some 11), (.mv (.c (.int .i64 1))), none⟩])
(.block 0
(.loop
(.seq
(.seq
(.rg [⟨(some 31), (.mv (.t 11)), none⟩, ⟨(some 32), (.bin .leq 3 (.t 31) (.c (.int .i64 200))), none⟩, ⟨(some 33), (.mv (.t 32)), none⟩, ⟨(some 34), (.mv (.t 10)), (some (33, true))⟩, ⟨(some 35), (.bin .eql 3 (.t 34) (.c (.int .i64 0))), (some (33, true))⟩, ⟨(some 36), (.pick (.t 33) (.t 35) (.c (.bool false))), none⟩])
(.cond (.t 36)
.skip
(.exit 0)))
(.seq
(.block 1
(.seq
(.rg [⟨(some 39), (.mv (.t 5)), none⟩, ⟨(some 40), (.mv (.t 11)), none⟩, ⟨(some 41), (.mv (.t 1)), none⟩, ⟨(some 42), (.conv 5 3 (.t 41)), none⟩, ⟨(some 43), (.bin .add 3 (.t 40) (.t 42)), none⟩, ⟨(some 44), (.mv (.t 1)), none⟩, ⟨(some 45), (.conv 5 3 (.t 44)), none⟩, ⟨(some 46), (.bin .add 3 (.c (.int .i64 1)) (.t 45)), none⟩, ⟨(some 47), (.bin .quo 3 (.t 43) (.t 46)), none⟩, ⟨(some 48), (.mv (.t 5)), none⟩, ⟨(some 49), (.bin .mul 3 (.t 47) (.t 48)), none⟩, ⟨(some 50), (.bin .add 3 (.t 39) (.t 49)), none⟩, ⟨(some 51), (.mv (.t 11)), none⟩, ⟨(some 52), (.bin .eql 3 (.t 50) (.t 51)), none⟩])
(.cond (.t 52)
(.rg [⟨(some 53), (.mv (.t 11)), none⟩, ⟨(some 10), (.mv (.t 53)), none⟩])
.skip)))
(.rg [⟨(some 37), (.mv (.t 11)), none⟩, ⟨(some 38), (.bin .add 3 (.t 37) (.c (.int .i64 1))), none⟩, ⟨(some 11), (.mv (.t 38)), none⟩]))))))
(.seq
(.seq
(.rg [⟨(some 54), (.mv (.t 5)), none⟩, ⟨(some 55), (.mv (.t 1)), none⟩, ⟨(some 56), (.conv 5 3 (.t 55)), none⟩, ⟨(some 57), (.bin .gtr 3 (.t 54) (.t 56)), none⟩, ⟨(some 58), (.mv (.t 57)), none⟩, ⟨(some 59), (.mv (.t 10)), (some (58, true))⟩, ⟨(some 60), (.bin .neq 3 (.t 59) (.c (.int .i64 0))), (some (58, true))⟩, ⟨(some 61), (.pick (.t 58) (.t 60) (.c (.bool false))), none⟩])
(.cond (.t 61)
(.seq
(.rg [⟨(some 4), (.mv (.c (.bool false))), none⟩])
.ret)
.skip))
(.seq
(.seq
(.rg [⟨(some 62), (.mv (.t 10)), none⟩, ⟨(some 63), (.bin .eql 3 (.t 62) (.c (.int .i64 0))), none⟩])
(.cond (.t 63)
(.seq
(.rg [⟨(some 64), (.mv (.t 9)), none⟩, ⟨(some 65), (.bin .eql 27 (.t 64) (.c (.int .i64 14))), none⟩, ⟨(some 66), (.mv (.t 65)), none⟩, ⟨(some 67), (.mv (.t 7)), (some (66, true))⟩, ⟨(some 68), (.bin .eql 2 (.t 67) (.c (.int .i64 0))), (some (66, true))⟩, ⟨(some 69), (.pick (.t 66) (.t 68) (.c (.bool false))), none⟩, ⟨(some 4), (.mv (.t 69)), none⟩])
.ret)
.skip))
(.seq
(.rg [⟨(some 70), (.mv (.t 9)), none⟩, ⟨(some 71), (.bin .eql 27 (.t 70) (.c (.int .i64 0))), none⟩, ⟨(some 72), (.mv (.t 71)), none⟩, ⟨(some 73), (.mv (.t 7)), (some (72, true))⟩, ⟨(some 74), (.mv (.t 10)), (some (72, true))⟩, ⟨(some 75), (.bin .eql 2 (.t 73) (.t 74)), (some (72, true))⟩, ⟨(some 76), (.pick (.t 72) (.t 75) (.c (.bool false))), none⟩, ⟨(some 4), (.mv (.t 76)), none⟩])
.ret))))))))))
def c7 : SC :=
(.seq
(.rg [⟨(some 4), (.mv (.c (.bool false))), none⟩])
(.seq
(.seq
(.rg [⟨(some 16), (.call (.c (.fn 13 [] [])) []), none⟩, ⟨(some 17), (.un .not (.t 16)), none⟩])
(.cond (.t 17)
(.seq
(.rg [⟨(some 4), (.mv (.c (.bool false))), none⟩])
.ret)
.skip))
(.seq
(.seq
(.rg [⟨(some 18), (.mv (.t 0)), none⟩, ⟨(some 19), (.len 22 (.t 18)), none⟩, ⟨(some 20), (.bin .gtr 3 (.t 19) (.c (.int .i64 250))), none⟩])
(.cond (.t 20)
(.seq
(.rg [⟨(some 4), (.mv (.c (.bool true))), none⟩])
.ret)
.skip))
(.seq
(.rg [⟨(some 21), (.mv (.t 0)), none⟩, ⟨(some 22), (.call (.c (.fn 14 [] [])) [(.t 21), (.c (.int .i64 5))]), none⟩, ⟨(some 5), (.mv (.t 22)), none⟩])
(.seq
(.seq
(.rg [⟨(some 6), (.mv (.c (.int .i64 0))), none⟩])
(.block 0
(.loop
(.seq
(.seq
(.rg [⟨(some 23), (.mv (.t 6)), none⟩, ⟨(some 24), (.mv (.t 5)), none⟩, ⟨(some 25), (.len 24 (.t 24)), none⟩, ⟨(some 26), (.bin .lss 3 (.t 23) (.t 25)), none⟩])
(.cond (.t 26)
.skip
(.exit 0)))
(.seq
(.block 1
(.seq
(.rg [⟨(some 30), (.mv (.t 5)), none⟩, ⟨(some 31), (.mv (.t 6)), none⟩, ⟨(some 32), (.mv (.t 1)), none⟩, ⟨(some 33), (.conv 5 2 (.t 32)), none⟩, ⟨(some 34), (.bin .add 2 (.c (.int .i64 1)) (.t 33)), none⟩, ⟨(some 35), (.call (.c (.fn 15 [] [])) [(.t 30), (.t 31), (.t 34)]), none⟩, ⟨(some 29), (.mv (.t 35)), none⟩, ⟨(some 36), (.ext (.t 29) 0), none⟩, ⟨(some 37), (.ext (.t 29) 1), none⟩, ⟨(some 38), (.ext (.t 29) 2), none⟩, ⟨(some 7), (.mv (.t 36)), none⟩, ⟨(some 8), (.mv (.t 37)), none⟩, ⟨(some 9), (.mv (.t 38)), none⟩])
(.seq
(.seq
(.rg [⟨(some 39), (.mv (.t 9)), none⟩, ⟨(some 40), (.bin .neq 27 (.t 39) (.c (.int .i64 0))), none⟩])
(.cond (.t 40)
(.seq
(.seq
(.rg [⟨(some 41), (.mv (.t 7)), none⟩, ⟨(some 42), (.bin .neq 2 (.t 41) (.c (.int .i64 0))), none⟩, ⟨(some 43), (.mv (.t 42)), none⟩, ⟨(some 44), (.mv (.t 8)), (some (43, false))⟩, ⟨(some 45), (.bin .neq 3 (.t 44) (.c (.int .i64 0))), (some (43, false))⟩, ⟨(some 46), (.pick (.t 43) (.c (.bool true)) (.t 45)), none⟩, ⟨(some 47), (.mv (.t 46)), none⟩, ⟨(some 48), (.mv (.t 9)), (some (47, false))⟩, ⟨(some 49), (.bin .neq 27 (.t 48) (.c (.int .i64 14))), (some (47, false))⟩, ⟨(some 50), (.pick (.t 47) (.c (.bool true)) (.t 49)), none⟩])
(.cond (.t 50)
(.seq
(.rg [⟨(some 4), (.mv (.c (.bool false))), none⟩])
.ret)
.skip))
(.exit 1))
.skip))
(.seq
(.rg [⟨(some 51), (.mv (.t 5)), none⟩, ⟨(some 52), (.mv (.t 6)), none⟩, ⟨(some 53), (.call (.c (.fn 20 [] [])) [(.t 51), (.t 52)]), none⟩, ⟨(some 10), (.mv (.t 53)), none⟩, ⟨(some 11), (.mv (.c (.int .i64 0))), none⟩])
(.seq
(.seq
(.rg [⟨(some 12), (.mv (.c (.int .i64 0))), none⟩])
(.block 2
(.loop
(.seq
(.seq
(.rg [⟨(some 54), (.mv (.t 12)), none⟩, ⟨(some 55), (.mv (.t 6)), none⟩, ⟨(some 56), (.bin .leq 3 (.t 54) (.t 55)), none⟩])
(.cond (.t 56)
.skip
(.exit 2)))
(.seq
(.block 3
(.seq
(.rg [⟨(some 60), (.mv (.t 5)), none⟩, ⟨(some 61), (.mv (.t 12)), none⟩, ⟨(some 62), (.iaddr 24 (.t 60) (.t 61)), none⟩, ⟨(some 63), (.load 36 (.t 62)), none⟩, ⟨(some 64), (.call (.c (.fn 21 [] [])) [(.t 63)]), none⟩, ⟨(some 59), (.mv (.t 64)), none⟩, ⟨(some 65), (.ext (.t 59) 0), none⟩, ⟨(some 66), (.ext (.t 59) 1), none⟩, ⟨(some 67), (.ext (.t 59) 2), none⟩, ⟨(some 13), (.mv (.t 65)), none⟩, ⟨(some 14), (.mv (.t 66)), none⟩, ⟨(some 15), (.mv (.t 67)), none⟩])
(.rg [⟨(some 68), (.mv (.t 10)), none⟩, ⟨(some 69), (.mv (.t 13)), none⟩, ⟨(some 70), (.bin .add 2 (.t 68) (.t 69)), none⟩, ⟨(some 71), (.mv (.t 11)), none⟩, ⟨(some 72), (.mv (.t 14)), none⟩, ⟨(some 73), (.max (.t 71) (.t 72)), none⟩, ⟨(some 10), (.mv (.t 70)), none⟩, ⟨(some 11), (.mv (.t 73)), none⟩])))
(.rg [⟨(some 57), (.mv (.t 12)), none⟩, ⟨(some 58), (.bin .add 3 (.t 57) (.c (.int .i64 1))), none⟩, ⟨(some 12), (.mv (.t 58)), none⟩]))))))
(.seq
(.rg [⟨(some 74), (.mv (.t 7)), none⟩, ⟨(some 75), (.mv (.t 10)), none⟩, ⟨(some 76), (.mv (.t 11)), none⟩, ⟨(some 77), (.bin .add 2 (.t 75) (.t 76)), none⟩, ⟨(some 78), (.bin .lss 2 (.t 74) (.t 77)), none⟩, ⟨(some 79), (.mv (.t 78)), none⟩, ⟨(some 80), (.mv (.t 7)), (some (79, false))⟩, ⟨(some 81), (.mv (.t 5)), (some (79, false))⟩, ⟨(some 82), (.mv (.t 6)), (some (79, false))⟩, ⟨(some 83), (.iaddr 24 (.t 81) (.t 82)), (some (79, false))⟩, ⟨(some 84), (.faddr 36 (.t 83) 2), (some (79, false))⟩, ⟨(some 85), (.load 2 (.t 84)), (some (79, false))⟩, ⟨(some 86), (.bin .gtr 2 (.t 80) (.t 85)), (some (79, false))⟩, ⟨(some 87), (.pick (.t 79) (.c (.bool true)) (.t 86)), none⟩, ⟨(some 88), (.mv (.t 87)), none⟩, ⟨(some 89), (.mv (.t 8)), (some (88, false))⟩, ⟨(some 90), (.bin .lss 3 (.t 89) (.c (.int .i64 2))), (some (88, false))⟩, ⟨(some 91), (.pick (.t 88) (.c (.bool true)) (.t 90)), none⟩])
(.cond (.t 91)
(.seq
(.rg [⟨(some 4), (.mv (.c (.bool false))), none⟩])
.ret)
.skip)))))))
(.rg [⟨(some 27), (.mv (.t 6)), none⟩, ⟨(some 28), (.bin .add 3 (.t 27) (.c (.int .i64 1))), none⟩, ⟨(some 6), (.mv (.t 28)), none⟩]))))))
(.seq
(.rg [⟨(some 4), (.mv (.c (.bool true))), none⟩])
.ret))))))
def c13 : SC :=
(.seq
(.rg [⟨(some 0), (.mv (.c (.bool false))), none⟩])
(.seq
(.rg [⟨(some 8), (.build 60 [(0, (.c (.int .i64 1)))]), none⟩, ⟨(some 9), (.build 60 [(0, (.c (.int .i64 1)))]), none⟩, ⟨(some 10), (.build 60 [(0, (.c (.int .i64 0)))]), none⟩, ⟨(some 11), (.bsl 34 3 [(0, (.t 8)), (1, (.t 9)), (2, (.t 10))]), none⟩, ⟨(some 12), (.build 36 [(0, (.c (.int .i64 1))), (1, (.c (.int .i64 50))), (2, (.c (.int .i64 50))), (3, (.t 11))]), none⟩, ⟨(some 13), (.bsl 24 1 [(0, (.t 12))]), none⟩, ⟨(some 1), (.mv (.t 13)), none⟩])
(.seq
(.rg [⟨(some 15), (.mv (.t 1)), none⟩, ⟨(some 16), (.call (.c (.fn 15 [] [])) [(.t 15), (.c (.int .i64 0)), (.c (.int .i64 100))]), none⟩, ⟨(some 14), (.mv (.t 16)), none⟩, ⟨(some 17), (.ext (.t 14) 0), none⟩, ⟨(some 18), (.ext (.t 14) 1), none⟩, ⟨(some 19), (.ext (.t 14) 2), none⟩, ⟨(some 2), (.mv (.t 17)), none⟩, ⟨(some 3), (.mv (.t 18)), none⟩, ⟨(some 4), (.mv (.t 19)), none⟩])
(.seq
(.rg [⟨(some 21), (.mv (.t 1)), none⟩, ⟨(some 22), (.call (.c (.fn 15 [] [])) [(.t 21), (.c (.int .i64 1)), (.c (.int .i64 100))]), none⟩, ⟨(some 20), (.mv (.t 22)), none⟩, ⟨(some 23), (.ext (.t 20) 0), none⟩, ⟨(some 24), (.ext (.t 20) 1), none⟩, ⟨(some 25), (.ext (.t 20) 2), none⟩, ⟨(some 5), (.mv (.t 23)), none⟩, ⟨(some 6), (.mv (.t 24)), none⟩, ⟨(some 7), (.mv (.t 25)), none⟩])
(.seq
(.rg [⟨(some 26), (.mv (.t 4)), none⟩, ⟨(some 27), (.bin .eql 27 (.t 26) (.c (.int .i64 0))), none⟩, ⟨(some 28), (.mv (.t 27)), none⟩, ⟨(some 29), (.mv (.t 2)), (some (28, true))⟩, ⟨(some 30), (.bin .eql 2 (.t 29) (.c (.int .i64 6))), (some (28, true))⟩, ⟨(some 31), (.pick (.t 28) (.t 30) (.c (.bool false))), none⟩, ⟨(some 32), (.mv (.t 31)), none⟩, ⟨(some 33), (.mv (.t 3)), (some (32, true))⟩, ⟨(some 34), (.bin .eql 3 (.t 33) (.c (.int .i64 2))), (some (32, true))⟩, ⟨(some 35), (.pick (.t 32) (.t 34) (.c (.bool false))), none⟩, ⟨(some 36), (.mv (.t 35)), none⟩, ⟨(some 37), (.mv (.t 7)), (some (36, true))⟩, ⟨(some 38), (.bin .eql 27 (.t 37) (.c (.int .i64 1))), (some (36, true))⟩, ⟨(some 39), (.pick (.t 36) (.t 38) (.c (.bool false))), none⟩, ⟨(some 0), (.mv (.t 39)), none⟩])
.ret)))))
theorem ok13 : FnOk Try.prog 13 c13 40 0 [(.tmp 0)] := .of Try.func13 (by kernel_rfl) (by kernel_rfl) (by kernel_rfl) (by kernel_rfl) (by kernel_rfl) (by decide) (by kernel_rfl)
def c14 : SC :=
(.seq
(.rg [⟨(some 4), (.mv (.c .nilsl)), none⟩])
(.seq
(.rg [⟨(some 10), (.mv (.t 0)), none⟩, ⟨(some 11), (.call (.c (.fn 23 [] [])) [(.t 10)]), none⟩, ⟨(some 5), (.mv (.t 11)), none⟩])
(.seq
(.rg [⟨(some 6), (.mv (.c .nilsl)), none⟩])
(.seq
(.rg [⟨(some 12), (.mv (.t 5)), none⟩, ⟨(some 13), (.call (.c (.fn 32 [] [])) [(.t 12), (.c (.int .i64 4))]), none⟩, ⟨(some 7), (.mv (.t 13)), none⟩])
(.seq
(.seq
(.rg [⟨(some 14), (.mv (.t 5)), none⟩, ⟨(some 15), (.mv (.t 1)), none⟩, ⟨(some 16), (.call (.c (.fn 32 [] [])) [(.t 14), (.t 15)]), none⟩, ⟨(some 17), (.bin .add 3 (.t 16) (.c (.int .i64 1))), none⟩, ⟨(some 8), (.mv (.t 17)), none⟩])
(.block 0
(.loop
(.seq
(.seq
(.rg [⟨(some 18), (.mv (.t 8)), none⟩, ⟨(some 19), (.bin .gtr 3 (.t 18) (.c (.int .i64 0))), none⟩])
(.cond (.t 19)
.skip
(.exit 0)))
(.seq
(.block 1
(.seq
(.rg [⟨(some 22), (.mv (.t 5)), none⟩, ⟨(some 23), (.mv (.t 6)), none⟩, ⟨(some 24), (.len 24 (.t 23)), none⟩, ⟨(some 25), (.bin .mul 3 (.c (.int .i64 3)) (.t 24)), none⟩, ⟨(some 26), (.mv (.t 5)), none⟩, ⟨(some 27), (.call (.c (.fn 32 [] [])) [(.t 26), (.c (.int .i64 3))]), none⟩, ⟨(some 28), (.bin .add 3 (.t 25) (.t 27)), none⟩, ⟨(some 29), (.mv (.t 7)), none⟩, ⟨(some 30), (.call (.c (.fn 24 [] [])) [(.t 22), (.t 28), (.t 29)]), none⟩, ⟨(some 9), (.alloc 36), none⟩, ⟨none, (.store 36 (.t 9) (.t 30)), none⟩])
(.seq
(.rg [⟨(some 31), (.load 36 (.t 9)), none⟩, ⟨(some 32), (.call (.c (.fn 33 [] [])) [(.t 31)]), none⟩, ⟨(some 33), (.bin .eql 27 (.t 32) (.c (.int .i64 0))), none⟩])
(.cond (.t 33)
(.rg [⟨(some 34), (.mv (.t 6)), none⟩, ⟨(some 35), (.load 36 (.t 9)), none⟩, ⟨(some 36), (.bsl 24 1 [(0, (.t 35))]), none⟩, ⟨(some 37), (.app 24 24 (.t 34) (.t 36)), none⟩, ⟨(some 6), (.mv (.t 37)), none⟩])
.skip))))
(.rg [⟨(some 20), (.mv (.t 8)), none⟩, ⟨(some 21), (.bin .sub 3 (.t 20) (.c (.int .i64 1))), none⟩, ⟨(some 8), (.mv (.t 21)), none⟩]))))))
(.seq
(.rg [⟨(some 38), (.mv (.t 6)), none⟩, ⟨(some 4), (.mv (.t 38)), none⟩])
.ret))))))
theorem ok14 : FnOk Try.prog 14 c14 39 2 [(.tmp 4)] := .of Try.func14 (by kernel_rfl) (by kernel_rfl) (by kernel_rfl) (by kernel_rfl) (by kernel_rfl) (by decide) (by kernel_rfl)
def c23 : SC :=
(.seq
(.rg [⟨(some 2), (.mv (.c .nilp)), none⟩])
(.seq
(.rg [⟨(some 3), (.mv (.t 0)), none⟩, ⟨(some 4), (.build 79 [(0, (.t 3))]), none⟩, ⟨(some 5), (.box 79 (.t 4)), none⟩, ⟨(some 2), (.mv (.t 5)), none⟩])
.ret))
theorem ok23 : FnOk Try.prog 23 c23 6 1 [(.tmp 2)] := .of Try.func23 (by kernel_rfl) (by kernel_rfl) (by kernel_rfl) (by kernel_rfl) (by kernel_rfl) (by decide) (by kernel_rfl)
def c24 : SC :=
(.seq
(.rg [⟨(some 6), (.alloc 36), none⟩])
(.seq
(.rg [⟨(some 8), (.mv (.t 1)), none⟩, ⟨(some 9), (.mv (.t 0)), none⟩, ⟨(some 10), (.mv (.t 2)), none⟩, ⟨(some 11), (.call (.c (.fn 45 [] [])) [(.t 9), (.t 10)]), none⟩, ⟨(some 12), (.build 36 [(0, (.t 8)), (3, (.t 11))]), none⟩, ⟨(some 7), (.alloc 36), none⟩, ⟨none, (.store 36 (.t 7) (.t 12)), none⟩])
(.seq
(.rg [⟨(some 13), (.mv (.t 0)), none⟩, ⟨(some 14), (.call (.c (.fn 32 [] [])) [(.t 13), (.c (.int .i64 12))]), none⟩, ⟨(some 15), (.bin .mul 3 (.c (.int .i64 10)) (.t 14)), none⟩, ⟨(some 16), (.bin .add 3 (.c (.int .i64 20)) (.t 15)), none⟩, ⟨(some 17), (.faddr 36 (.t 7) 1), none⟩, ⟨none, (.store 2 (.t 17) (.t 16)), none⟩])
(.seq
(.dr [⟨(some 18), (.faddr 36 (.t 7) 1), none⟩, ⟨(some 19), (.load 2 (.t 18)), none⟩, ⟨(some 20), (.mv (.t 0)), none⟩, ⟨(some 21), (.call (.c (.fn 32 [] [])) [(.t 20), (.c (.int .i64 10))]), none⟩, ⟨(some 22), (.bin .sub 2 (.t 19) (.t 21)), none⟩, ⟨(some 23), (.faddr 36 (.t 7) 2), none⟩, ⟨none, (.store 2 (.t 23) (.t 22)), none⟩] [[], [0], [], [2], [1, 3], [0, 1, 2, 3, 4], [5, 4, 3, 0, 1, 2, 3, 4]])
(.seq
(.seq
(.rg [⟨(some 24), (.mv (.t 0)), none⟩, ⟨(some 25), (.call (.c (.fn 32 [] [])) [(.t 24), (.c (.int .i64 3))]), none⟩, ⟨(some 26), (.bin .eql 3 (.t 25) (.c (.int .i64 0))), none⟩])
(.cond (.t 26)
(.rg [⟨(some 27), (.build 60 [(0, (.c (.int .i64 1))), (1, (.c (.int .i64 0))), (3, (.c (.int .i64 99)))]), none⟩, ⟨(some 28), (.build 60 [(0, (.c (.int .i64 0)))]), none⟩, ⟨(some 29), (.bsl 34 2 [(0, (.t 27)), (1, (.t 28))]), none⟩, ⟨(some 30), (.mv (.t 0)), none⟩, ⟨(some 31), (.call (.c (.fn 32 [] [])) [(.t 30), (.c (.int .i64 2))]), none⟩, ⟨(some 32), (.slice 34 (.t 29) (some (.t 31)) none none), none⟩, ⟨(some 33), (.faddr 36 (.t 7) 4), none⟩, ⟨none, (.store 34 (.t 33) (.t 32)), none⟩])
.skip))
(.seq
(.seq
(.rg [⟨(some 34), (.mv (.t 0)), none⟩, ⟨(some 35), (.call (.c (.fn 32 [] [])) [(.t 34), (.c (.int .i64 3))]), none⟩, ⟨(some 36), (.bin .eql 3 (.t 35) (.c (.int .i64 0))), none⟩])
(.cond (.t 36)
(.rg [⟨(some 37), (.mv (.t 0)), none⟩, ⟨(some 38), (.call (.c (.fn 45 [] [])) [(.t 37), (.c (.int .i64 0))]), none⟩, ⟨(some 39), (.faddr 36 (.t 7) 5), none⟩, ⟨none, (.store 34 (.t 39) (.t 38)), none⟩])
.skip))
(.seq
(.rg [⟨(some 40), (.load 36 (.t 7)), none⟩, ⟨none, (.store 36 (.t 6) (.t 40)), none⟩])
.ret)))))))
theorem ok24 : FnOk Try.prog 24 c24 41 3 [(.cell 6 36)] := .of Try.func24 (by kernel_rfl) (by kernel_rfl) (by kernel_rfl) (by kernel_rfl) (by kernel_rfl) (by decide) (by kernel_rfl)
def c32 : SC :=
(.seq
(.rg [⟨(some 4), (.mv (.c (.int .i64 0))), none⟩])
(.seq
(.seq
(.dr [⟨(some 5), (.mv (.t 0)), none⟩, ⟨(some 6), (.nilck (.t 5)), none⟩, ⟨(some 7), (.faddr 79 (.t 6) 1), none⟩, ⟨(some 8), (.load 3 (.t 7)), none⟩, ⟨(some 9), (.mv (.t 0)), none⟩, ⟨(some 10), (.nilck (.t 9)), none⟩, ⟨(some 11), (.faddr 79 (.t 10) 0), none⟩, ⟨(some 12), (.load 22 (.t 11)), none⟩, ⟨(some 13), (.len 22 (.t 12)), none⟩, ⟨(some 14), (.bin .geq 3 (.t 8) (.t 13)), none⟩] [[], [0], [1], [2], [], [4], [5], [6], [7], [3, 8]])
(.cond (.t 14)
(.seq
(.rg [⟨(some 4), (.mv (.c (.int .i64 0))), none⟩])
.ret)
.skip))
(.seq
(.rg [⟨(some 15), (.mv (.t 0)), none⟩, ⟨(some 16), (.nilck (.t 15)), none⟩, ⟨(some 17), (.faddr 79 (.t 16) 1), none⟩, ⟨(some 18), (.load 3 (.t 17)), none⟩, ⟨(some 19), (.bin .add 3 (.t 18) (.c (.int .i64 1))), none⟩, ⟨(some 20), (.nilck (.t 15)), none⟩, ⟨(some 21), (.faddr 79 (.t 20) 1), none⟩, ⟨none, (.store 3 (.t 21) (.t 19)), none⟩])
(.seq
(.dr [⟨(some 22), (.mv (.t 0)), none⟩, ⟨(some 23), (.nilck (.t 22)), none⟩, ⟨(some 24), (.faddr 79 (.t 23) 0), none⟩, ⟨(some 25), (.load 22 (.t 24)), none⟩, ⟨(some 26), (.mv (.t 0)), none⟩, ⟨(some 27), (.nilck (.t 26)), none⟩, ⟨(some 28), (.faddr 79 (.t 27) 1), none⟩, ⟨(some 29), (.load 3 (.t 28)), none⟩, ⟨(some 30), (.bin .sub 3 (.t 29) (.c (.int .i64 1))), none⟩, ⟨(some 31), (.iaddr 22 (.t 25) (.t 30)), none⟩, ⟨(some 32), (.load 5 (.t 31)), none⟩, ⟨(some 33), (.conv 5 3 (.t 32)), none⟩, ⟨(some 34), (.mv (.t 1)), none⟩, ⟨(some 35), (.bin .rem 3 (.t 33) (.t 34)), none⟩, ⟨(some 4), (.mv (.t 35)), none⟩] [[], [0], [1], [2], [], [4], [5], [6], [7], [3, 8], [9], [10], [], [11, 12], [13, 0, 1, 2, 3, 4, 5, 6, 7, 8, 9, 10, 11, 12, 13]])
.ret))))
theorem ok32 : FnOk Try.prog 32 c32 36 2 [(.tmp 4)] := .of Try.func32 (by kernel_rfl) (by kernel_rfl) (by kernel_rfl) (by kernel_rfl) (by kernel_rfl) (by decide) (by kernel_rfl)
def c33 : SC :=
(.seq
(.rg [⟨(some 1), (.box 36 (.t 0)), none⟩, ⟨(some 2), (.mv (.c (.int .i64 0))), none⟩])
(.seq
(.rg [⟨(some 10), (.faddr 36 (.t 1) 3), none⟩, ⟨(some 11), (.load 34 (.t 10)), none⟩, ⟨(some 12), (.call (.c (.fn 44 [] [])) [(.t 11)]), none⟩, ⟨(some 9), (.mv (.t 12)), none⟩, ⟨(some 13), (.ext (.t 9) 0), none⟩, ⟨(some 14), (.ext (.t 9) 1), none⟩, ⟨(some 3), (.alloc 75), none⟩, ⟨none, (.store 75 (.t 3) (.t 13)), none⟩, ⟨(some 4), (.mv (.t 14)), none⟩])
(.seq
(.rg [⟨(some 16), (.faddr 36 (.t 1) 4), none⟩, ⟨(some 17), (.load 34 (.t 16)), none⟩, ⟨(some 18), (.call (.c (.fn 44 [] [])) [(.t 17)]), none⟩, ⟨(some 15), (.mv (.t 18)), none⟩, ⟨(some 19), (.ext (.t 15) 0), none⟩, ⟨(some 20), (.ext (.t 15) 1), none⟩, ⟨(some 5), (.alloc 75), none⟩, ⟨none, (.store 75 (.t 5) (.t 19)), none⟩, ⟨(some 6), (.mv (.t 20)), none⟩])
(.seq
(.rg [⟨(some 22), (.faddr 36 (.t 1) 5), none⟩, ⟨(some 23), (.load 34 (.t 22)), none⟩, ⟨(some 24), (.call (.c (.fn 44 [] [])) [(.t 23)]), none⟩, ⟨(some 21), (.mv (.t 24)), none⟩, ⟨(some 25), (.ext (.t 21) 0), none⟩, ⟨(some 26), (.ext (.t 21) 1), none⟩, ⟨(some 7), (.alloc 75), none⟩, ⟨none, (.store 75 (.t 7) (.t 25)), none⟩, ⟨(some 8), (.mv (.t 26)), none⟩])
(.seq
(.block 0
(.seq
(.rg [⟨(some 28), (.faddr 36 (.t 1) 0), none⟩, ⟨(some 29), (.load 3 (.t 28)), none⟩, ⟨(some 30), (.bin .lss 3 (.t 29) (.c (.int .i64 0))), none⟩, ⟨(some 31), (.mv (.t 30)), none⟩, ⟨(some 32), (.faddr 36 (.t 1) 0), (some (31, false))⟩, ⟨(some 33), (.load 3 (.t 32)), (some (31, false))⟩, ⟨(some 34), (.bin .gtr 3 (.t 33) (.c (.int .i64 63))), (some (31, false))⟩, ⟨(some 35), (.pick (.t 31) (.c (.bool true)) (.t 34)), none⟩, ⟨(some 27), (.mv (.t 35)), none⟩])
(.cond (.t 27)
(.seq
(.rg [⟨(some 2), (.mv (.c (.int .i64 1))), none⟩])
.ret)
(.seq
(.rg [⟨(some 37), (.faddr 36 (.t 1) 1), none⟩, ⟨(some 38), (.load 2 (.t 37)), none⟩, ⟨(some 39), (.bin .lss 2 (.t 38) (.c (.int .i64 1))), none⟩, ⟨(some 40), (.mv (.t 39)), none⟩, ⟨(some 41), (.faddr 36 (.t 1) 1), (some (40, false))⟩, ⟨(some 42), (.load 2 (.t 41)), (some (40, false))⟩, ⟨(some 43), (.bin .gtr 2 (.t 42) (.c (.int .i64 16384))), (some (40, false))⟩, ⟨(some 44), (.pick (.t 40) (.c (.bool true)) (.t 43)), none⟩, ⟨(some 45), (.mv (.t 44)), none⟩, ⟨(some 46), (.faddr 36 (.t 1) 2), (some (45, false))⟩, ⟨(some 47), (.load 2 (.t 46)), (some (45, false))⟩, ⟨(some 48), (.bin .lss 2 (.t 47) (.c (.int .i64 1))), (some (45, false))⟩, ⟨(some 49), (.pick (.t 45) (.c (.bool true)) (.t 48)), none⟩, ⟨(some 50), (.mv (.t 49)), none⟩, ⟨(some 51), (.faddr 36 (.t 1) 2), (some (50, false))⟩, ⟨(some 52), (.load 2 (.t 51)), (some (50, false))⟩, ⟨(some 53), (.faddr 36 (.t 1) 1), (some (50, false))⟩, ⟨(some 54), (.load 2 (.t 53)), (some (50, false))⟩, ⟨(some 55), (.bin .gtr 2 (.t 52) (.t 54)), (some (50, false))⟩, ⟨(some 56), (.pick (.t 50) (.c (.bool true)) (.t 55)), none⟩, ⟨(some 36), (.mv (.t 56)), none⟩])
(.cond (.t 36)
(.seq
(.rg [⟨(some 2), (.mv (.c (.int .i64 9))), none⟩])
.ret)
(.seq
(.rg [⟨(some 58), (.mv (.t 4)), none⟩, ⟨(some 59), (.un .not (.t 58)), none⟩, ⟨(some 60), (.mv (.t 59)), none⟩, ⟨(some 61), (.faddr 36 (.t 1) 4), (some (60, false))⟩, ⟨(some 62), (.load 34 (.t 61)), (some (60, false))⟩, ⟨(some 63), (.len 34 (.t 62)), (some (60, false))⟩, ⟨(some 64), (.bin .gtr 3 (.t 63) (.c (.int .i64 0))), (some (60, false))⟩, ⟨(some 65), (.mv (.t 64)), (some (60, false))⟩, ⟨(some 66), (.mv (.t 6)), (some (65, true))⟩, ⟨(some 67), (.un .not (.t 66)), (some (65, true))⟩, ⟨(some 68), (.pick (.t 65) (.t 67) (.c (.bool false))), (some (60, false))⟩, ⟨(some 69), (.pick (.t 60) (.c (.bool true)) (.t 68)), none⟩, ⟨(some 70), (.mv (.t 69)), none⟩, ⟨(some 71), (.faddr 36 (.t 1) 5), (some (70, false))⟩, ⟨(some 72), (.load 34 (.t 71)), (some (70, false))⟩, ⟨(some 73), (.len 34 (.t 72)), (some (70, false))⟩, ⟨(some 74), (.bin .gtr 3 (.t 73) (.c (.int .i64 0))), (some (70, false))⟩, ⟨(some 75), (.mv (.t 74)), (some (70, false))⟩, ⟨(some 76), (.mv (.t 8)), (some (75, true))⟩, ⟨(some 77), (.un .not (.t 76)), (some (75, true))⟩, ⟨(some 78), (.mv (.t 77)), (some (75, true))⟩, ⟨(some 79), (.faddr 36 (.t 1) 5), (some (78, false))⟩, ⟨(some 80), (.load 34 (.t 79)), (some (78, false))⟩, ⟨(some 81), (.call (.c (.fn 52 [] [])) [(.t 80)]), (some (78, false))⟩, ⟨(some 82), (.pick (.t 78) (.c (.bool true)) (.t 81)), (some (75, true))⟩, ⟨(some 83), (.pick (.t 75) (.t 82) (.c (.bool false))), (some (70, false))⟩, ⟨(some 84), (.pick (.t 70) (.c (.bool true)) (.t 83)), none⟩, ⟨(some 57), (.mv (.t 84)), none⟩])
(.cond (.t 57)
(.seq
(.rg [⟨(some 2), (.mv (.c (.int .i64 2))), none⟩])
.ret)
(.seq
(.rg [⟨(some 86), (.faddr 75 (.t 3) 0), none⟩, ⟨(some 87), (.load 2 (.t 86)), none⟩, ⟨(some 88), (.faddr 36 (.t 1) 2), none⟩, ⟨(some 89), (.load 2 (.t 88)), none⟩, ⟨(some 90), (.bin .gtr 2 (.t 87) (.t 89)), none⟩, ⟨(some 85), (.mv (.t 90)), none⟩])
(.cond (.t 85)
(.seq
(.rg [⟨(some 2), (.mv (.c (.int .i64 10))), none⟩])
.ret)
(.seq
(.rg [⟨(some 92), (.faddr 36 (.t 1) 4), none⟩, ⟨(some 93), (.load 34 (.t 92)), none⟩, ⟨(some 94), (.len 34 (.t 93)), none⟩, ⟨(some 95), (.bin .gtr 3 (.t 94) (.c (.int .i64 0))), none⟩, ⟨(some 96), (.mv (.t 95)), none⟩, ⟨(some 97), (.faddr 75 (.t 5) 0), (some (96, true))⟩, ⟨(some 98), (.load 2 (.t 97)), (some (96, true))⟩, ⟨(some 99), (.faddr 75 (.t 3) 0), (some (96, true))⟩, ⟨(some 100), (.load 2 (.t 99)), (some (96, true))⟩, ⟨(some 101), (.bin .gtr 2 (.t 98) (.t 100)), (some (96, true))⟩, ⟨(some 102), (.pick (.t 96) (.t 101) (.c (.bool false))), none⟩, ⟨(some 91), (.mv (.t 102)), none⟩])
(.cond (.t 91)
(.seq
(.rg [⟨(some 2), (.mv (.c (.int .i64 12))), none⟩])
.ret)
.skip)))))))))))
(.seq
(.rg [⟨(some 2), (.mv (.c (.int .i64 0))), none⟩])
.ret))))))
theorem ok33 : FnOk Try.prog 33 c33 103 1 [(.tmp 2)] := .of Try.func33 (by kernel_rfl) (by kernel_rfl) (by kernel_rfl) (by kernel_rfl) (by kernel_rfl) (by decide) (by kernel_rfl)
def c45 : SC :=
(.seq
(.rg [⟨(some 4), (.mv (.c .nilsl)), none⟩])
(.seq
(.rg [⟨(some 5), (.mv (.c .nilsl)), none⟩])
(.seq
(.seq
(.rg [⟨(some 10), (.mv (.t 0)), none⟩, ⟨(some 11), (.call (.c (.fn 32 [] [])) [(.t 10), (.c (.int .i64 4))]), none⟩, ⟨(some 12), (.bin .add 3 (.t 11) (.c (.int .i64 1))), none⟩, ⟨(some 6), (.mv (.t 12)), none⟩])
(.block 0
(.loop
(.seq
(.seq
(.rg [⟨(some 13), (.mv (.t 6)), none⟩, ⟨(some 14), (.bin .gtr 3 (.t 13) (.c (.int .i64 0))), none⟩])
(.cond (.t 14)
.skip
(.exit 0)))
(.seq
(.block 1
(.seq
(.rg [⟨(some 7), (.mv (.c .nilsl)), none⟩])
(.seq
(.seq
(.rg [⟨(some 17), (.mv (.t 0)), none⟩, ⟨(some 18), (.call (.c (.fn 32 [] [])) [(.t 17), (.c (.int .i64 5))]), none⟩])
(.block 2
(.seq
(.rg [⟨(some 23), (.bin .eql 3 (.t 18) (.c (.int .i64 0))), none⟩, ⟨(some 22), (.mv (.t 23)), none⟩])
(.cond (.t 22)
(.seq
(.rg [⟨(some 24), (.mv (.t 0)), none⟩, ⟨(some 25), (.mv (.t 1)), none⟩, ⟨(some 26), (.call (.c (.fn 62 [] [])) [(.t 24), (.c (.int .i64 2)), (.t 25)]), none⟩, ⟨(some 8), (.mv (.t 26)), none⟩])
(.rg [⟨(some 27), (.mv (.t 8)), none⟩, ⟨(some 28), (.len 34 (.t 27)), none⟩, ⟨(some 29), (.mv (.t 0)), none⟩, ⟨(some 30), (.call (.c (.fn 32 [] [])) [(.t 29), (.c (.int .i64 3))]), none⟩, ⟨(some 31), (.bin .add 3 (.c (.int .i64 1)) (.t 30)), none⟩, ⟨(some 32), (.build 60 [(0, (.c (.int .i64 8))), (2, (.t 28)), (3, (.t 31))]), none⟩, ⟨(some 33), (.bsl 34 1 [(0, (.t 32))]), none⟩, ⟨(some 34), (.mv (.t 8)), none⟩, ⟨(some 35), (.app 34 34 (.t 33) (.t 34)), none⟩, ⟨(some 7), (.mv (.t 35)), none⟩]))
(.seq
(.rg [⟨(some 37), (.bin .eql 3 (.t 18) (.c (.int .i64 1))), none⟩, ⟨(some 36), (.mv (.t 37)), none⟩])
(.cond (.t 36)
(.seq
(.rg [⟨(some 38), (.mv (.t 0)), none⟩, ⟨(some 39), (.mv (.t 1)), none⟩, ⟨(some 40), (.call (.c (.fn 62 [] [])) [(.t 38), (.c (.int .i64 2)), (.t 39)]), none⟩, ⟨(some 9), (.mv (.t 40)), none⟩])
(.rg [⟨(some 41), (.mv (.t 0)), none⟩, ⟨(some 42), (.call (.c (.fn 32 [] [])) [(.t 41), (.c (.int .i64 3))]), none⟩, ⟨(some 43), (.mv (.t 9)), none⟩, ⟨(some 44), (.len 34 (.t 43)), none⟩, ⟨(some 45), (.build 60 [(0, (.c (.int .i64 7))), (1, (.t 42)), (3, (.t 44))]), none⟩, ⟨(some 46), (.bsl 34 1 [(0, (.t 45))]), none⟩, ⟨(some 47), (.mv (.t 9)), none⟩, ⟨(some 48), (.app 34 34 (.t 46) (.t 47)), none⟩, ⟨(some 7), (.mv (.t 48)), none⟩]))
(.seq
(.rg [⟨(some 50), (.bin .eql 3 (.t 18) (.c (.int .i64 2))), none⟩, ⟨(some 49), (.mv (.t 50)), none⟩])
(.cond (.t 49)
(.rg [⟨(some 51), (.build 60 [(0, (.c (.int .i64 11)))]), none⟩, ⟨(some 52), (.bsl 34 1 [(0, (.t 51))]), none⟩, ⟨(some 7), (.mv (.t 52)), none⟩])
(.rg [⟨(some 19), (.mv (.t 0)), none⟩, ⟨(some 20), (.mv (.t 1)), none⟩, ⟨(some 21), (.call (.c (.fn 62 [] [])) [(.t 19), (.c (.int .i64 2)), (.t 20)]), none⟩, ⟨(some 7), (.mv (.t 21)), none⟩])))))))))
(.seq
(.rg [⟨(some 53), (.mv (.t 5)), none⟩, ⟨(some 54), (.len 34 (.t 53)), none⟩, ⟨(some 55), (.mv (.t 7)), none⟩, ⟨(some 56), (.len 34 (.t 55)), none⟩, ⟨(some 57), (.bin .add 3 (.t 54) (.t 56)), none⟩, ⟨(some 58), (.bin .lss 3 (.t 57) (.c (.int .i64 23))), none⟩])
(.cond (.t 58)
(.rg [⟨(some 59), (.mv (.t 5)), none⟩, ⟨(some 60), (.mv (.t 7)), none⟩, ⟨(some 61), (.app 34 34 (.t 59) (.t 60)), none⟩, ⟨(some 5), (.mv (.t 61)), none⟩])
.skip)))))
(.rg [⟨(some 15), (.mv (.t 6)), none⟩, ⟨(some 16), (.bin .sub 3 (.t 15) (.c (.int .i64 1))), none⟩, ⟨(some 6), (.mv (.t 16)), none⟩]))))))
(.seq
(.rg [⟨(some 62), (.mv (.t 5)), none⟩, ⟨(some 63), (.build 60 [(0, (.c (.int .i64 0)))]), none⟩, ⟨(some 64), (.bsl 34 1 [(0, (.t 63))]), none⟩, ⟨(some 65), (.app 34 34 (.t 62) (.t 64)), none⟩, ⟨(some 4), (.mv (.t 65)), none⟩])
.ret))))
theorem ok45 : FnOk Try.prog 45 c45 66 2 [(.tmp 4)] := .of Try.func45 (by kernel_rfl) (by kernel_rfl) (by kernel_rfl) (by kernel_rfl) (by kernel_rfl) (by decide) (by kernel_rfl)
def c48 : SC :=
(.seq
(.rg [⟨(some 4), (.mv (.c (.int .i64 0))), none⟩])
(.seq
(.seq
(.rg [⟨(some 6), (.mv (.t 0)), none⟩, ⟨(some 7), (.len 24 (.t 6)), none⟩, ⟨(some 8), (.mv (.c (.int .i64 0))), none⟩])
(.block 0
(.loop
(.seq
(.rg [⟨(some 9), (.bin .lss 3 (.t 8) (.t 7)), none⟩])
(.seq
(.cond (.t 9)
.skip
(.exit 0))
(.seq
(.block 1
(.seq
(.rg [⟨(some 10), (.mv (.t 8)), none⟩, ⟨(some 5), (.mv (.t 10)), none⟩])
(.seq
(.rg [⟨(some 11), (.mv (.t 1)), none⟩, ⟨(some 12), (.mv (.t 0)), none⟩, ⟨(some 13), (.mv (.t 5)), none⟩, ⟨(some 14), (.iaddr 24 (.t 12) (.t 13)), none⟩, ⟨(some 15), (.load 36 (.t 14)), none⟩, ⟨(some 16), (.call (.t 11) [(.t 15)]), none⟩])
(.cond (.t 16)
(.seq
(.rg [⟨(some 17), (.mv (.t 5)), none⟩, ⟨(some 4), (.mv (.t 17)), none⟩])
.ret)
.skip))))
(.rg [⟨(some 18), (.bin .add 3 (.t 8) (.c (.int .i64 1))), none⟩, ⟨(some 8), (.mv (.t 18)), none⟩])))))))
(.seq
(.rg [⟨(some 4), (.mv (.c (.int .i64 (-1)))), none⟩])
.ret)))
theorem ok48 : FnOk Try.prog 48 c48 19 2 [(.tmp 4)] := .of Try.func48 (by kernel_rfl) (by kernel_rfl) (by kernel_rfl) (by kernel_rfl) (by kernel_rfl) (by decide) (by kernel_rfl)
def c54 : SC :=
(.seq
(.rg [⟨(some 2), (.mv (.c .nilsl)), none⟩])
(.seq
(.rg [⟨(some 3), (.mv (.c (.int .i64 0))), none⟩])
(.seq
(.seq
(.rg [⟨(some 9), (.mv (.t 0)), none⟩, ⟨(some 10), (.len 102 (.t 9)), none⟩, ⟨(some 11), (.mv (.c (.int .i64 0))), none⟩])
(.block 0
(.loop
(.seq
(.rg [⟨(some 12), (.bin .lss 3 (.t 11) (.t 10)), none⟩])
(.seq
(.cond (.t 12)
.skip
(.exit 0))
(.seq
(.block 1
(.seq
(.rg [⟨(some 13), (.iaddr 102 (.t 9) (.t 11)), none⟩, ⟨(some 14), (.load 44 (.t 13)), none⟩, ⟨(some 5), (.mv (.t 14)), none⟩])
(.seq
(.rg [⟨(some 15), (.mv (.t 3)), none⟩, ⟨(some 16), (.mv (.t 5)), none⟩, ⟨(some 17), (.len 44 (.t 16)), none⟩, ⟨(some 18), (.bin .add 3 (.t 15) (.t 17)), none⟩, ⟨(some 3), (.mv (.t 18)), none⟩])
(.seq
(.rg [⟨(some 19), (.mv (.t 3)), none⟩, ⟨(some 20), (.bin .lss 3 (.t 19) (.c (.int .i64 0))), none⟩])
(.cond (.t 20)
(.rg [⟨(some 21), .bad, none⟩, ⟨none, .bad, none⟩])
.skip)))))
(.rg [⟨(some 22), (.bin .add 3 (.t 11) (.c (.int .i64 1))), none⟩, ⟨(some 11), (.mv (.t 22)), none⟩])))))))
(.seq
(.rg [⟨(some 23), (.mv (.t 3)), none⟩, ⟨(some 24), (.call (.c (.fn 73 [] [])) [(.c .nilsl), (.t 23)]), none⟩, ⟨(some 6), (.mv (.t 24)), none⟩])
(.seq
(.seq
(.rg [⟨(some 25), (.mv (.t 0)), none⟩, ⟨(some 26), (.len 102 (.t 25)), none⟩, ⟨(some 27), (.mv (.c (.int .i64 0))), none⟩])
(.block 2
(.loop
(.seq
(.rg [⟨(some 28), (.bin .lss 3 (.t 27) (.t 26)), none⟩])
(.seq
(.cond (.t 28)
.skip
(.exit 2))
(.seq
(.block 3
(.seq
(.rg [⟨(some 29), (.iaddr 102 (.t 25) (.t 27)), none⟩, ⟨(some 30), (.load 44 (.t 29)), none⟩, ⟨(some 8), (.mv (.t 30)), none⟩])
(.rg [⟨(some 31), (.mv (.t 6)), none⟩, ⟨(some 32), (.mv (.t 8)), none⟩, ⟨(some 33), (.app 44 44 (.t 31) (.t 32)), none⟩, ⟨(some 6), (.mv (.t 33)), none⟩])))
(.rg [⟨(some 34), (.bin .add 3 (.t 27) (.c (.int .i64 1))), none⟩, ⟨(some 27), (.mv (.t 34)), none⟩])))))))
(.seq
(.rg [⟨(some 35), (.mv (.t 6)), none⟩, ⟨(some 2), (.mv (.t 35)), none⟩])
.ret))))))
theorem ok54 : FnOk Try.prog 54 c54 36 1 [(.tmp 2)] := .of Try.func54 (by kernel_rfl) (by kernel_rfl) (by kernel_rfl) (by kernel_rfl) (by kernel_rfl) (by decide) (by kernel_rfl)
def c57 : SC :=
(.seq
(.rg [⟨(some 3), (.box 3 (.t 1)), none⟩, ⟨(some 4), (.mv (.c (.int .i64 0))), none⟩])
(.seq
(.rg [⟨(some 6), (.mv (.t 0)), none⟩, ⟨(some 7), (.mkfn 77 [] [(.t 3)]), none⟩, ⟨(some 8), (.call (.c (.fn 48 [] [])) [(.t 6), (.t 7)]), none⟩, ⟨(some 5), (.mv (.t 8)), none⟩])
(.seq
(.seq
(.rg [⟨(some 9), (.mv (.t 5)), none⟩, ⟨(some 10), (.bin .lss 3 (.t 9) (.c (.int .i64 0))), none⟩])
(.cond (.t 10)
(.seq
(.rg [⟨(some 4), (.mv (.c (.int .i64 8))), none⟩])
.ret)
.skip))
(.seq
(.rg [⟨(some 11), (.mv (.t 5)), none⟩, ⟨(some 4), (.mv (.t 11)), none⟩])
.ret))))
theorem ok57 : FnOk Try.prog 57 c57 12 2 [(.tmp 4)] := .of Try.func57 (by kernel_rfl) (by kernel_rfl) (by kernel_rfl) (by kernel_rfl) (by kernel_rfl) (by decide) (by kernel_rfl)
def c62 : SC :=
(.seq
(.rg [⟨(some 6), (.mv (.c .nilsl)), none⟩])
(.seq
(.rg [⟨(some 7), (.mv (.c .nilsl)), none⟩])
(.seq
(.seq
(.rg [⟨(some 10), (.mv (.t 0)), none⟩, ⟨(some 11), (.mv (.t 1)), none⟩, ⟨(some 12), (.call (.c (.fn 32 [] [])) [(.t 10), (.t 11)]), none⟩, ⟨(some 13), (.bin .add 3 (.t 12) (.c (.int .i64 1))), none⟩, ⟨(some 8), (.mv (.t 13)), none⟩])
(.block 0
(.loop
(.seq
(.seq
(.rg [⟨(some 14), (.mv (.t 8)), none⟩, ⟨(some 15), (.bin .gtr 3 (.t 14) (.c (.int .i64 0))), none⟩])
(.cond (.t 15)
.skip
(.exit 0)))
(.seq
(.block 1
(.seq
(.rg [⟨(some 18), (.mv (.t 2)), none⟩, ⟨(some 19), (.bin .gtr 3 (.t 18) (.c (.int .i64 0))), none⟩, ⟨(some 20), (.mv (.t 19)), none⟩, ⟨(some 21), (.mv (.t 0)), (some (20, true))⟩, ⟨(some 22), (.call (.c (.fn 32 [] [])) [(.t 21), (.c (.int .i64 4))]), (some (20, true))⟩, ⟨(some 23), (.bin .eql 3 (.t 22) (.c (.int .i64 0))), (some (20, true))⟩, ⟨(some 24), (.pick (.t 20) (.t 23) (.c (.bool false))), none⟩])
(.cond (.t 24)
(.seq
(.rg [⟨(some 25), (.mv (.t 0)), none⟩, ⟨(some 26), (.mv (.t 2)), none⟩, ⟨(some 27), (.call (.c (.fn 32 [] [])) [(.t 25), (.t 26)]), none⟩, ⟨(some 9), (.mv (.t 27)), none⟩])
(.rg [⟨(some 28), (.mv (.t 7)), none⟩, ⟨(some 29), (.mv (.t 9)), none⟩, ⟨(some 30), (.build 60 [(0, (.c (.int .i64 9))), (1, (.t 29))]), none⟩, ⟨(some 31), (.bsl 34 1 [(0, (.t 30))]), none⟩, ⟨(some 32), (.app 34 34 (.t 28) (.t 31)), none⟩, ⟨(some 33), (.mv (.t 0)), none⟩, ⟨(some 34), (.call (.c (.fn 85 [] [])) [(.t 33)]), none⟩, ⟨(some 35), (.bsl 34 1 [(0, (.t 34))]), none⟩, ⟨(some 36), (.app 34 34 (.t 32) (.t 35)), none⟩, ⟨(some 37), (.mv (.t 9)), none⟩, ⟨(some 38), (.build 60 [(0, (.c (.int .i64 10))), (1, (.t 37))]), none⟩, ⟨(some 39), (.bsl 34 1 [(0, (.t 38))]), none⟩, ⟨(some 40), (.app 34 34 (.t 36) (.t 39)), none⟩, ⟨(some 7), (.mv (.t 40)), none⟩]))
(.rg [⟨(some 41), (.mv (.t 7)), none⟩, ⟨(some 42), (.mv (.t 0)), none⟩, ⟨(some 43), (.call (.c (.fn 85 [] [])) [(.t 42)]), none⟩, ⟨(some 44), (.bsl 34 1 [(0, (.t 43))]), none⟩, ⟨(some 45), (.app 34 34 (.t 41) (.t 44)), none⟩, ⟨(some 7), (.mv (.t 45)), none⟩]))))
(.rg [⟨(some 16), (.mv (.t 8)), none⟩, ⟨(some 17), (.bin .sub 3 (.t 16) (.c (.int .i64 1))), none⟩, ⟨(some 8), (.mv (.t 17)), none⟩]))))))
(.seq
(.rg [⟨(some 46), (.mv (.t 7)), none⟩, ⟨(some 6), (.mv (.t 46)), none⟩])
.ret))))
theorem ok62 : FnOk Try.prog 62 c62 47 3 [(.tmp 6)] := .of Try.func62 (by kernel_rfl) (by kernel_rfl) (by kernel_rfl) (by kernel_rfl) (by kernel_rfl) (by decide) (by kernel_rfl)
def c73 : SC :=
(.seq
(.rg [⟨(some 4), (.mv (.c .nilsl)), none⟩])
(.seq
(.seq
(.rg [⟨(some 5), (.mv (.t 1)), none⟩, ⟨(some 6), (.bin .lss 3 (.t 5) (.c (.int .i64 0))), none⟩])
(.cond (.t 6)
(.rg [⟨(some 7), .bad, none⟩, ⟨none, .bad, none⟩])
.skip))
(.seq
(.seq
(.rg [⟨(some 8), (.mv (.t 1)), none⟩, ⟨(some 9), (.mv (.t 0)), none⟩, ⟨(some 10), (.cap 44 (.t 9)), none⟩, ⟨(some 11), (.mv (.t 0)), none⟩, ⟨(some 12), (.len 44 (.t 11)), none⟩, ⟨(some 13), (.bin .sub 3 (.t 10) (.t 12)), none⟩, ⟨(some 14), (.bin .sub 3 (.t 8) (.t 13)), none⟩, ⟨(some 1), (.mv (.t 14)), none⟩])
(.seq
(.rg [⟨(some 15), (.mv (.t 1)), none⟩, ⟨(some 16), (.bin .gtr 3 (.t 15) (.c (.int .i64 0))), none⟩])
(.cond (.t 16)
(.rg [⟨(some 17), (.mv (.t 0)), none⟩, ⟨(some 18), (.mv (.t 0)), none⟩, ⟨(some 19), (.cap 44 (.t 18)), none⟩, ⟨(some 20), (.slice 44 (.t 17) none (some (.t 19)) none), none⟩, ⟨(some 21), (.mv (.t 1)), none⟩, ⟨(some 22), (.app 44 3 (.t 20) (.t 21)), none⟩, ⟨(some 23), (.mv (.t 0)), none⟩, ⟨(some 24), (.len 44 (.t 23)), none⟩, ⟨(some 25), (.slice 44 (.t 22) none (some (.t 24)) none), none⟩, ⟨(some 0), (.mv (.t 25)), none⟩])
.skip)))
(.seq
(.rg [⟨(some 26), (.mv (.t 0)), none⟩, ⟨(some 4), (.mv (.t 26)), none⟩])
.ret))))
theorem ok73 : FnOk Try.prog 73 c73 27 2 [(.tmp 4)] := .of Try.func73 (by kernel_rfl) (by kernel_rfl) (by kernel_rfl) (by kernel_rfl) (by kernel_rfl) (by decide) (by kernel_rfl)
def c97 : SC :=
(.seq
(.rg [⟨(some 4), (.mv (.c .nilsl)), none⟩])
(.seq
(.seq
(.rg [⟨(some 5), (.mv (.t 1)), none⟩, ⟨(some 6), (.bin .lss 3 (.t 5) (.c (.int .i64 0))), none⟩])
(.cond (.t 6)
(.rg [⟨(some 7), .bad, none⟩, ⟨none, .bad, none⟩])
.skip))
(.seq
(.seq
(.rg [⟨(some 8), (.mv (.t 1)), none⟩, ⟨(some 9), (.mv (.t 0)), none⟩, ⟨(some 10), (.cap 34 (.t 9)), none⟩, ⟨(some 11), (.mv (.t 0)), none⟩, ⟨(some 12), (.len 34 (.t 11)), none⟩, ⟨(some 13), (.bin .sub 3 (.t 10) (.t 12)), none⟩, ⟨(some 14), (.bin .sub 3 (.t 8) (.t 13)), none⟩, ⟨(some 1), (.mv (.t 14)), none⟩])
(.seq
(.rg [⟨(some 15), (.mv (.t 1)), none⟩, ⟨(some 16), (.bin .gtr 3 (.t 15) (.c (.int .i64 0))), none⟩])
(.cond (.t 16)
(.rg [⟨(some 17), (.mv (.t 0)), none⟩, ⟨(some 18), (.mv (.t 0)), none⟩, ⟨(some 19), (.cap 34 (.t 18)), none⟩, ⟨(some 20), (.slice 34 (.t 17) none (some (.t 19)) none), none⟩, ⟨(some 21), (.mv (.t 1)), none⟩, ⟨(some 22), (.app 34 3 (.t 20) (.t 21)), none⟩, ⟨(some 23), (.mv (.t 0)), none⟩, ⟨(some 24), (.len 34 (.t 23)), none⟩, ⟨(some 25), (.slice 34 (.t 22) none (some (.t 24)) none), none⟩, ⟨(some 0), (.mv (.t 25)), none⟩])
.skip)))
(.seq
(.rg [⟨(some 26), (.mv (.t 0)), none⟩, ⟨(some 4), (.mv (.t 26)), none⟩])
.ret))))
theorem ok97 : FnOk Try.prog 97 c97 27 2 [(.tmp 4)] := .of Try.func97 (by kernel_rfl) (by kernel_rfl) (by kernel_rfl) (by kernel_rfl) (by kernel_rfl) (by decide) (by kernel_rfl)
end Go.Fv
/- CONTRACTS: slices.Grow, slices.Concat. -/
namespace Go.Fv
open Go.Proofs

theorem s_growI (n : Nat) (hn : n ≤ 1000000) : Spec Try.prog 97 [.nilsl, .int .i64 (n : Nat)] 0 [] fun d U => (d = .nilsl ∧ U = []) ∨ ∃ rows, plainR rows = true ∧ d = .sl 4 0 0 0 ∧ U = [(0, some (.rows 4 rows))] := by
  refine Spec.walk ok97 fun C Q hP hN hQ => ?_
  unfold c97
  have hz0 : ((n : Int) < 0) = False := by simp
  have w0 : IntKind.i64.wrap ((0 : Int) - 0) = 0 := rfl
  have w1 : IntKind.i64.wrap ((n : Int) - 0) = n := by rw [Int.sub_zero]; exact wrap_i64 (by omega) (by omega)
  simp only [EV, EX, hP, reduceIte, Nat.reduceEqDiff, Nat.reduceAdd, Nat.reduceSub, binA, IN, hz0, decide_false, capA, lenA, ty34, w0, w1]
  refine condS_d (fun h => ?_) (fun h => ?_)
  · have hc : (0 : Int) ≤ n := by omega
    have hroom : ((n : Int)) * ((32 : Nat) : Int) ≤ 140737488355328 := by omega
    have hz1 : (0 ≤ n) = True := by simp
    simp only [EV, EX, hP, reduceIte, Nat.reduceEqDiff, Nat.reduceAdd, Nat.reduceSub, binA, IN, capA, lenA, ty34, sliceA, elSize_eq ty34 ty60, Option.isSome_some, if_true, bnd, Int.toNat_zero, Nat.zero_le, Nat.le_refl, and_self, true_and, implies_true, Option.isSome_none, Bool.false_eq_true, false_implies, appA, elTI_eq ty34, ty60, ty3, growA, hc, hroom, Int.toNat_natCast, cellsOf, hz1, Nat.sub_zero, Nat.zero_add, Int.le_refl]

    refine hQ _ ⟨⟨0, [(288, 0)], [], []⟩, [.sl 4 288 0 0], [.sl 4 0 0 0], [(0, some (.rows 4 (List.replicate n [.int .i64 0, .int .i64 0, .int .i64 0, .int .i64 0])))], rfl, Nat.le_refl _, rfl, .cons _ _ _ _ (.sl 4 288 0 0 0 rfl) .nil, ⟨.inl ⟨288, _, rfl, by simp, rfl, lowB_same ?_⟩, trivial⟩, .inr ⟨_, ?_, rfl, rfl⟩⟩
    · rw [plainR_all]; intro r hr; rw [(List.mem_replicate.1 hr).2]; rfl
    · rw [plainR_all]; intro r hr; rw [(List.mem_replicate.1 hr).2]; rfl
  · simp only [EV, EX, hP, reduceIte, Nat.reduceEqDiff, Nat.reduceAdd, Nat.reduceSub, binA, IN]
    refine hQ _ <| retQ_pure _ rfl rfl (.inl ⟨rfl, rfl⟩)

/-- Two of them, one behind the other. -/
theorem s_concatI (a b : List (List DV)) (ha : plainR a = true) (hb : plainR b = true) (hla : a.length ≤ 100000) (hlb : b.length ≤ 100000) (hka : ∀ r ∈ a, r.length = 4) (hkb : ∀ r ∈ b, r.length = 4) :
    Spec Try.prog 79 [.sl 1 0 0 2] 1 [(0, some (.rows 1 [[.fz 4 a], [.fz 4 b]]))] fun d U => d = .fz 4 (a ++ b) ∧ U = [] := by
  refine Spec.walk ok79 fun C Q hP hN hQ => ?_
  unfold c79
  simp only [EV, EX, hP, reduceIte, Nat.reduceEqDiff, Nat.reduceAdd, Nat.reduceSub, binA, IN, len_sl ty127]
  have hpl : plainR [[DV.fz 4 a], [DV.fz 4 b]] = true := by simp [plainR, plainL, plain, ha, hb]
  refine LoopW.by (fun i => ⟨[(11, some (.int .i64 (i : Nat))), (10, some (.int .i64 2)), (9, some (.sl 1 0 0 2)), (3, some (.int .i64 (if i = 0 then (0 : Nat) else if i = 1 then a.length else a.length + b.length : Nat))), (0, some (.sl 1 0 0 2))], [(0, some (.rows 1 [[.fz 4 a], [.fz 4 b]]))], 16⟩) (fun i => i ≤ 2) (fun i => 2 - i) 0 (by omega) ?_ ?_
  · exact Sub.tell ⟨1, [], [], []⟩ hN rfl ⟨⟨_, rfl, .same _ rfl⟩, ⟨_, rfl, .same _ rfl⟩, ⟨_, rfl, .sl 1 0 0 0 2 rfl⟩, ⟨_, rfl, .same _ rfl⟩, ⟨_, rfl, .sl 1 0 0 0 2 rfl⟩, trivial⟩ ⟨.inl ⟨0, _, rfl, by simp, rfl, lowB_same hpl⟩, trivial⟩
  · intro i hi N hN'
    have hcase : i = 0 ∨ i = 1 ∨ i = 2 := by omega
    have hneg : ∀ m : Nat, ((m : Int) < 0) = False := by intro m; simp
    have hT : ∀ (S : St) (i2 : Nat) (m : Nat), S.get 11 = some (.int .i64 (i2 : Nat)) → S.get 10 = some (.int .i64 2) → S.get 9 = some (.sl 1 0 0 2) → S.get 3 = some (.int .i64 (m : Nat)) → S.get 0 = some (.sl 1 0 0 2) → S.blk 0 = some (.rows 1 [[.fz 4 a], [.fz 4 b]]) →
        (Nm.mk 1 [] [] []).ok S.nx 16 = true → m = (if i2 = 0 then (0 : Nat) else if i2 = 1 then a.length else a.length + b.length : Nat) → i2 ≤ 2 → 2 - i2 < 2 - i → N S := by
      intro S i2 m g1 g2 g3 g4 g5 b0 hok hm h2 hlt
      refine hN' _ i2 h2 hlt (Sub.tell ⟨1, [], [], []⟩ hN hok ⟨⟨_, g1, .same _ rfl⟩, ⟨_, g2, .same _ rfl⟩, ⟨_, g3, .sl 1 0 0 0 2 rfl⟩, ⟨_, g4, by rw [hm]; exact .same _ rfl⟩, ⟨_, g5, .sl 1 0 0 0 2 rfl⟩, trivial⟩ ⟨.inl ⟨0, _, rfl, by simp, b0, lowB_same hpl⟩, trivial⟩)
    have w1 : IntKind.i64.wrap (((0 : Nat) : Int) + (a.length : Int)) = (a.length : Nat) := by rw [wrap_i64 (by omega) (by omega)]; omega
    have w2 : IntKind.i64.wrap ((a.length : Int) + (b.length : Int)) = ((a.length + b.length : Nat) : Int) := by rw [wrap_i64 (by omega) (by omega)]; omega
    rcases hcase with rfl | rfl | rfl
    · have hlt : (((0 : Nat) : Int) < 2) = True := by simp
      have hb2 : (0 : Int) ≤ ((0 : Nat) : Int) ∧ ((0 : Nat) : Int) < ((2 : Nat) : Int) := by omega
      simp only [EV, EX, hP, reduceIte, Nat.reduceEqDiff, Nat.reduceAdd, Nat.reduceSub, binA, IN, MX, buildA, fillA, faddrA, load_ptr, load_fp, rowOf_eq, packA, TK.isAgg, cellsOf, cellD, boxA, allocA, storeA, putCells, Nat.reduceLeDiff, extA, hlt, decide_true, iaddr_sl, elSize_eq ty127 ty34, hb2, ty34, len_fz ty34, w1, hneg, decide_false]
      exact hT _ 1 a.length rfl rfl rfl rfl rfl rfl rfl rfl (by omega) (by omega)
    · have hlt : (((1 : Nat) : Int) < 2) = True := by simp
      have hb2 : (0 : Int) ≤ ((1 : Nat) : Int) ∧ ((1 : Nat) : Int) < ((2 : Nat) : Int) := by omega
      simp only [EV, EX, hP, reduceIte, Nat.reduceEqDiff, Nat.reduceAdd, Nat.reduceSub, binA, IN, MX, buildA, fillA, faddrA, load_ptr, load_fp, rowOf_eq, packA, TK.isAgg, cellsOf, cellD, boxA, allocA, storeA, putCells, Nat.reduceLeDiff, extA, hlt, decide_true, iaddr_sl, elSize_eq ty127 ty34, hb2, ty34, len_fz ty34, w2, hneg, decide_false]
      exact hT _ 2 (a.length + b.length) rfl rfl rfl rfl rfl rfl rfl rfl (by omega) (by omega)
    · have hlt : (((2 : Nat) : Int) < 2) = False := by simp
      simp only [EV, EX, hP, reduceIte, Nat.reduceEqDiff, Nat.reduceAdd, Nat.reduceSub, binA, IN, hlt, decide_false]
      have hcall : ∀ (nb : Nat) (h : Nat → Option Blk), CallR Try.prog (.fn 97 [] []) [.nilsl, .int .i64 ((a.length + b.length : Nat) : Int)] h nb
          fun d U => (d = .nilsl ∧ U = []) ∨ ∃ rows, plainR rows = true ∧ d = .sl 4 nb 0 0 ∧ U = [(nb, some (.rows 4 rows))] := by
        intro nb h
        refine (s_growI (a.length + b.length) (by omega)).callR [] nb rfl List.Pairwise.nil rfl (plainL_ren _ rfl) trivial ?_
        rintro d U (⟨rfl, rfl⟩ | ⟨rows, hp, rfl, rfl⟩)
        · exact ⟨.nilsl, [], rfl, rfl, .inl ⟨rfl, rfl⟩⟩
        · refine ⟨.sl 4 nb 0 0, [(nb, some (.rows 4 rows))], by simp [ren, sg], ?_, .inr ⟨rows, hp, rfl, rfl⟩⟩
          simp [renU, renOB, renB, sg, plainR_ren rows hp]
      rw [← hP] at hcall
      refine callW_of (hcall _ _) ?_
      have hpa : ∀ jk, plainR jk = true → plainR (a ++ b ++ jk) = true ∧ plainR (a ++ jk) = true := by intro jk h; simp [plainR_append, ha, hb, h]
      rintro d U (⟨rfl, rfl⟩ | ⟨rows, hp, rfl, rfl⟩) <;> simp only [EV, EX, hP, reduceIte, Nat.reduceEqDiff, Nat.reduceAdd, Nat.reduceSub, binA, IN, len_sl ty127]
      · refine LoopW.by (fun (x : Nat × List (List DV)) => ⟨[(27, some (.int .i64 (x.1 : Nat))), (26, some (.int .i64 2)), (25, some (.sl 1 0 0 2)), (6, some (.sl 4 1 0 (if x.1 = 0 then [] else if x.1 = 1 then a else a ++ b).length))], [(0, some (.rows 1 [[.fz 4 a], [.fz 4 b]])), (1, some (.rows 4 ((if x.1 = 0 then [] else if x.1 = 1 then a else a ++ b) ++ x.2)))], 32⟩)
          (fun x => x.1 ≤ 2 ∧ plainR x.2 = true) (fun x => 2 - x.1) (0, []) ⟨by simp, rfl⟩ ?_ ?_
        · exact Sub.tell ⟨1, [], [(1, 4)], []⟩ hN rfl ⟨⟨_, rfl, .same _ rfl⟩, ⟨_, rfl, .same _ rfl⟩, ⟨_, rfl, .sl 1 0 0 0 2 rfl⟩, ⟨_, rfl, .own 4 1 rfl⟩, trivial⟩ ⟨.inl ⟨0, _, rfl, by simp, rfl, lowB_same hpl⟩, .inr ⟨4, rfl, rfl⟩, trivial⟩
        · rintro ⟨i, jk⟩ ⟨hi, hjk⟩ N2 hN2
          simp only at hi hjk hN2
          have hT2 : ∀ (S : St) (i2 nm : Nat) (cur jk : List (List DV)), S.get 27 = some (.int .i64 (i2 : Nat)) → S.get 26 = some (.int .i64 2) → S.get 25 = some (.sl 1 0 0 2) → S.get 6 = some (.sl 4 nm 0 cur.length) → S.blk 0 = some (.rows 1 [[.fz 4 a], [.fz 4 b]]) →
              S.blk nm = some (.rows 4 (cur ++ jk)) → (Nm.mk 1 [(nm, 1)] [] []).ok S.nx 32 = true → (Nm.mk 1 [(nm, 1)] [] []).new 0 = some 0 → (Nm.mk 1 [(nm, 1)] [] []).new nm = some 1 → cur = (if i2 = 0 then [] else if i2 = 1 then a else a ++ b) → plainR jk = true → i2 ≤ 2 → 2 - i2 < 2 - i → N2 S := by
            intro S i2 nm cur jk g1 g2 g3 g4 b0 b1 hok m0 m1 hcur hj h2 hlt
            have hpc : plainR (cur ++ jk) = true := by
              rw [plainR_append, hj, hcur]
              split
              · rfl
              · split
                · rw [ha]; rfl
                · rw [plainR_append, ha, hb]; rfl
            refine hN2 _ (i2, jk) ⟨h2, hj⟩ hlt (Sub.tell ⟨1, [(nm, 1)], [], []⟩ hN hok ⟨⟨_, g1, .same _ rfl⟩, ⟨_, g2, .same _ rfl⟩, ⟨_, g3, .sl 1 0 0 0 2 m0⟩, ⟨_, g4, by simp only [← hcur]; exact .sl 4 nm 1 0 _ m1⟩, trivial⟩ ⟨.inl ⟨0, _, m0, by simp, b0, lowB_same hpl⟩, .inl ⟨nm, _, m1, by simp, b1, by simp only [← hcur]; exact lowB_same hpc⟩, trivial⟩)
          have hcase : i = 0 ∨ i = 1 ∨ i = 2 := by omega
          rcases hcase with rfl | rfl | rfl
          · have hlt : (((0 : Nat) : Int) < 2) = True := by simp
            have hb2 : (0 : Int) ≤ ((0 : Nat) : Int) ∧ ((0 : Nat) : Int) < ((2 : Nat) : Int) := by omega
            have hroom : (((0 : Nat) : Int) + (a.length : Int)) * ((32 : Nat) : Int) ≤ 140737488355328 := by omega
            simp only [EV, EX, hP, reduceIte, Nat.reduceEqDiff, Nat.reduceAdd, Nat.reduceSub, binA, IN, MX, buildA, fillA, faddrA, load_ptr, load_fp, rowOf_eq, packA, TK.isAgg, cellsOf, cellD, boxA, allocA, storeA, putCells, Nat.reduceLeDiff, extA, hlt, decide_true, iaddr_sl, elSize_eq ty127 ty34, hb2, ty34, if_true, List.length_nil, appA, elTI_eq ty34, ty60, rowsOf, Nat.zero_le, true_and, and_true, hroom, List.take_zero]
            exact hT2 _ 1 128 a [] rfl rfl rfl rfl rfl (by rw [List.append_nil]; rfl) rfl rfl rfl rfl rfl (by omega) (by omega)
          · have hlt : (((1 : Nat) : Int) < 2) = True := by simp
            have hb2 : (0 : Int) ≤ ((1 : Nat) : Int) ∧ ((1 : Nat) : Int) < ((2 : Nat) : Int) := by omega
            have hroom : ((a.length : Int) + (b.length : Int)) * ((32 : Nat) : Int) ≤ 140737488355328 := by omega
            have hle : a.length ≤ (a ++ jk).length := by rw [List.length_append]; omega
            have htk : (a ++ jk).take a.length = a := List.take_left
            have e1 : (1 : Nat) = 0 ↔ False := by simp
            simp only [EV, EX, hP, reduceIte, Nat.reduceEqDiff, Nat.reduceAdd, Nat.reduceSub, binA, IN, MX, buildA, fillA, faddrA, load_ptr, load_fp, rowOf_eq, packA, TK.isAgg, cellsOf, cellD, boxA, allocA, storeA, putCells, Nat.reduceLeDiff, extA, hlt, decide_true, iaddr_sl, elSize_eq ty127 ty34, hb2, ty34, e1, if_true, if_false, appA, elTI_eq ty34, ty60, rowsOf, Nat.zero_le, true_and, and_true, hroom, hle, htk]
            exact hT2 _ 2 128 (a ++ b) [] rfl rfl rfl (by rw [List.length_append]; rfl) rfl (by rw [List.append_nil]; rfl) rfl rfl rfl rfl rfl (by omega) (by omega)
          · have hlt : (((2 : Nat) : Int) < 2) = False := by simp
            have e1 : (2 : Nat) = 0 ↔ False := by simp
            have e2 : (2 : Nat) = 1 ↔ False := by simp
            simp only [EV, EX, hP, reduceIte, Nat.reduceEqDiff, Nat.reduceAdd, Nat.reduceSub, binA, IN, hlt, decide_false, e1, e2, if_false]
            refine hQ _ ⟨⟨1, [], [], [1]⟩, [.sl 4 1 0 (a ++ b).length], [.fz 4 (a ++ b)], [], rfl, Nat.le_refl _, rfl, .cons _ _ _ _ (Tl.freeze (by simp) rfl (by simp only [List.length_append]; omega) ?_ (by rw [plainR_append, ha, hb]; rfl) ?_) .nil, ⟨.inl ⟨0, _, rfl, by simp, rfl, lowB_same hpl⟩, trivial⟩, rfl, rfl⟩
            · rw [List.drop_zero, List.take_left]
            · intro r hr
              rcases List.mem_append.1 hr with h | h
              · exact hka r h
              · exact hkb r h
      · refine LoopW.by (fun (x : Nat × List (List DV)) => ⟨[(27, some (.int .i64 (x.1 : Nat))), (26, some (.int .i64 2)), (25, some (.sl 1 0 0 2)), (6, some (.sl 4 1 0 (if x.1 = 0 then [] else if x.1 = 1 then a else a ++ b).length))], [(0, some (.rows 1 [[.fz 4 a], [.fz 4 b]])), (1, some (.rows 4 ((if x.1 = 0 then [] else if x.1 = 1 then a else a ++ b) ++ x.2)))], 32⟩)
          (fun x => x.1 ≤ 2 ∧ plainR x.2 = true) (fun x => 2 - x.1) (0, rows) ⟨by simp, hp⟩ ?_ ?_
        · exact Sub.tell ⟨1, [(48, 1)], [], []⟩ hN rfl ⟨⟨_, rfl, .same _ rfl⟩, ⟨_, rfl, .same _ rfl⟩, ⟨_, rfl, .sl 1 0 0 0 2 rfl⟩, ⟨_, rfl, .sl 4 48 1 0 0 rfl⟩, trivial⟩ ⟨.inl ⟨0, _, rfl, by simp, rfl, lowB_same hpl⟩, .inl ⟨48, _, rfl, by simp, rfl, lowB_same hp⟩, trivial⟩
        · rintro ⟨i, jk⟩ ⟨hi, hjk⟩ N2 hN2
          simp only at hi hjk hN2
          have hT2 : ∀ (S : St) (i2 nm : Nat) (cur jk : List (List DV)), S.get 27 = some (.int .i64 (i2 : Nat)) → S.get 26 = some (.int .i64 2) → S.get 25 = some (.sl 1 0 0 2) → S.get 6 = some (.sl 4 nm 0 cur.length) → S.blk 0 = some (.rows 1 [[.fz 4 a], [.fz 4 b]]) →
              S.blk nm = some (.rows 4 (cur ++ jk)) → (Nm.mk 1 [(nm, 1)] [] []).ok S.nx 32 = true → (Nm.mk 1 [(nm, 1)] [] []).new 0 = some 0 → (Nm.mk 1 [(nm, 1)] [] []).new nm = some 1 → cur = (if i2 = 0 then [] else if i2 = 1 then a else a ++ b) → plainR jk = true → i2 ≤ 2 → 2 - i2 < 2 - i → N2 S := by
            intro S i2 nm cur jk g1 g2 g3 g4 b0 b1 hok m0 m1 hcur hj h2 hlt
            have hpc : plainR (cur ++ jk) = true := by
              rw [plainR_append, hj, hcur]
              split
              · rfl
              · split
                · rw [ha]; rfl
                · rw [plainR_append, ha, hb]; rfl
            refine hN2 _ (i2, jk) ⟨h2, hj⟩ hlt (Sub.tell ⟨1, [(nm, 1)], [], []⟩ hN hok ⟨⟨_, g1, .same _ rfl⟩, ⟨_, g2, .same _ rfl⟩, ⟨_, g3, .sl 1 0 0 0 2 m0⟩, ⟨_, g4, by simp only [← hcur]; exact .sl 4 nm 1 0 _ m1⟩, trivial⟩ ⟨.inl ⟨0, _, m0, by simp, b0, lowB_same hpl⟩, .inl ⟨nm, _, m1, by simp, b1, by simp only [← hcur]; exact lowB_same hpc⟩, trivial⟩)
          have hcase : i = 0 ∨ i = 1 ∨ i = 2 := by omega
          rcases hcase with rfl | rfl | rfl
          · have hlt : (((0 : Nat) : Int) < 2) = True := by simp
            have hb2 : (0 : Int) ≤ ((0 : Nat) : Int) ∧ ((0 : Nat) : Int) < ((2 : Nat) : Int) := by omega
            have hroom : (((0 : Nat) : Int) + (a.length : Int)) * ((32 : Nat) : Int) ≤ 140737488355328 := by omega
            simp only [EV, EX, hP, reduceIte, Nat.reduceEqDiff, Nat.reduceAdd, Nat.reduceSub, binA, IN, MX, buildA, fillA, faddrA, load_ptr, load_fp, rowOf_eq, packA, TK.isAgg, cellsOf, cellD, boxA, allocA, storeA, putCells, Nat.reduceLeDiff, extA, hlt, decide_true, iaddr_sl, elSize_eq ty127 ty34, hb2, ty34, if_true, List.length_nil, appA, elTI_eq ty34, ty60, rowsOf, Nat.zero_le, true_and, and_true, hroom, List.take_zero]
            exact hT2 _ 1 128 a [] rfl rfl rfl rfl rfl (by rw [List.append_nil]; rfl) rfl rfl rfl rfl rfl (by omega) (by omega)
          · have hlt : (((1 : Nat) : Int) < 2) = True := by simp
            have hb2 : (0 : Int) ≤ ((1 : Nat) : Int) ∧ ((1 : Nat) : Int) < ((2 : Nat) : Int) := by omega
            have hroom : ((a.length : Int) + (b.length : Int)) * ((32 : Nat) : Int) ≤ 140737488355328 := by omega
            have hle : a.length ≤ (a ++ jk).length := by rw [List.length_append]; omega
            have htk : (a ++ jk).take a.length = a := List.take_left
            have e1 : (1 : Nat) = 0 ↔ False := by simp
            simp only [EV, EX, hP, reduceIte, Nat.reduceEqDiff, Nat.reduceAdd, Nat.reduceSub, binA, IN, MX, buildA, fillA, faddrA, load_ptr, load_fp, rowOf_eq, packA, TK.isAgg, cellsOf, cellD, boxA, allocA, storeA, putCells, Nat.reduceLeDiff, extA, hlt, decide_true, iaddr_sl, elSize_eq ty127 ty34, hb2, ty34, e1, if_true, if_false, appA, elTI_eq ty34, ty60, rowsOf, Nat.zero_le, true_and, and_true, hroom, hle, htk]
            exact hT2 _ 2 128 (a ++ b) [] rfl rfl rfl (by rw [List.length_append]; rfl) rfl (by rw [List.append_nil]; rfl) rfl rfl rfl rfl rfl (by omega) (by omega)
          · have hlt : (((2 : Nat) : Int) < 2) = False := by simp
            have e1 : (2 : Nat) = 0 ↔ False := by simp
            have e2 : (2 : Nat) = 1 ↔ False := by simp
            simp only [EV, EX, hP, reduceIte, Nat.reduceEqDiff, Nat.reduceAdd, Nat.reduceSub, binA, IN, hlt, decide_false, e1, e2, if_false]
            refine hQ _ ⟨⟨1, [], [], [1]⟩, [.sl 4 1 0 (a ++ b).length], [.fz 4 (a ++ b)], [], rfl, Nat.le_refl _, rfl, .cons _ _ _ _ (Tl.freeze (by simp) rfl (by simp only [List.length_append]; omega) ?_ (by rw [plainR_append, ha, hb]; rfl) ?_) .nil, ⟨.inl ⟨0, _, rfl, by simp, rfl, lowB_same hpl⟩, trivial⟩, rfl, rfl⟩
            · rw [List.drop_zero, List.take_left]
            · intro r hr
              rcases List.mem_append.1 hr with h | h
              · exact hka r h
              · exact hkb r h

theorem s_growS (n : Nat) (hn : n ≤ 1000000) : Spec Try.prog 73 [.nilsl, .int .i64 (n : Nat)] 0 [] fun d U => (d = .nilsl ∧ U = []) ∨ ∃ rows, plainR rows = true ∧ d = .sl 2 0 0 0 ∧ U = [(0, some (.rows 2 rows))] := by
  refine Spec.walk ok73 fun C Q hP hN hQ => ?_
  unfold c73
  have hz0 : ((n : Int) < 0) = False := by simp
  have w0 : IntKind.i64.wrap ((0 : Int) - 0) = 0 := rfl
  have w1 : IntKind.i64.wrap ((n : Int) - 0) = n := by rw [Int.sub_zero]; exact wrap_i64 (by omega) (by omega)
  simp only [EV, EX, hP, reduceIte, Nat.reduceEqDiff, Nat.reduceAdd, Nat.reduceSub, binA, IN, hz0, decide_false, capA, lenA, ty44, w0, w1]
  refine condS_d (fun h => ?_) (fun h => ?_)
  · have hc : (0 : Int) ≤ n := by omega
    have hroom : ((n : Int)) * ((16 : Nat) : Int) ≤ 140737488355328 := by omega
    have hz1 : (0 ≤ n) = True := by simp
    simp only [EV, EX, hP, reduceIte, Nat.reduceEqDiff, Nat.reduceAdd, Nat.reduceSub, binA, IN, capA, lenA, ty44, sliceA, elSize_eq ty44 ty73, Option.isSome_some, if_true, bnd, Int.toNat_zero, Nat.zero_le, Nat.le_refl, and_self, true_and, implies_true, Option.isSome_none, Bool.false_eq_true, false_implies, appA, elTI_eq ty44, ty73, ty3, growA, hc, hroom, Int.toNat_natCast, cellsOf, hz1, Nat.sub_zero, Nat.zero_add, Int.le_refl]

    refine hQ _ ⟨⟨0, [(288, 0)], [], []⟩, [.sl 2 288 0 0], [.sl 2 0 0 0], [(0, some (.rows 2 (List.replicate n [.int .i64 0, .int .i64 0])))], rfl, Nat.le_refl _, rfl, .cons _ _ _ _ (.sl 2 288 0 0 0 rfl) .nil, ⟨.inl ⟨288, _, rfl, by simp, rfl, lowB_same ?_⟩, trivial⟩, .inr ⟨_, ?_, rfl, rfl⟩⟩
    · rw [plainR_all]; intro r hr; rw [(List.mem_replicate.1 hr).2]; rfl
    · rw [plainR_all]; intro r hr; rw [(List.mem_replicate.1 hr).2]; rfl
  · simp only [EV, EX, hP, reduceIte, Nat.reduceEqDiff, Nat.reduceAdd, Nat.reduceSub, binA, IN]
    refine hQ _ <| retQ_pure _ rfl rfl (.inl ⟨rfl, rfl⟩)

/-- Two of them, one behind the other. -/
theorem s_concatS (a b : List (List DV)) (ha : plainR a = true) (hb : plainR b = true) (hla : a.length ≤ 100000) (hlb : b.length ≤ 100000) (hka : ∀ r ∈ a, r.length = 2) (hkb : ∀ r ∈ b, r.length = 2) :
    Spec Try.prog 54 [.sl 1 0 0 2] 1 [(0, some (.rows 1 [[.fz 2 a], [.fz 2 b]]))] fun d U => d = .fz 2 (a ++ b) ∧ U = [] := by
  refine Spec.walk ok54 fun C Q hP hN hQ => ?_
  unfold c54
  simp only [EV, EX, hP, reduceIte, Nat.reduceEqDiff, Nat.reduceAdd, Nat.reduceSub, binA, IN, len_sl ty102]
  have hpl : plainR [[DV.fz 2 a], [DV.fz 2 b]] = true := by simp [plainR, plainL, plain, ha, hb]
  refine LoopW.by (fun i => ⟨[(11, some (.int .i64 (i : Nat))), (10, some (.int .i64 2)), (9, some (.sl 1 0 0 2)), (3, some (.int .i64 (if i = 0 then (0 : Nat) else if i = 1 then a.length else a.length + b.length : Nat))), (0, some (.sl 1 0 0 2))], [(0, some (.rows 1 [[.fz 2 a], [.fz 2 b]]))], 16⟩) (fun i => i ≤ 2) (fun i => 2 - i) 0 (by omega) ?_ ?_
  · exact Sub.tell ⟨1, [], [], []⟩ hN rfl ⟨⟨_, rfl, .same _ rfl⟩, ⟨_, rfl, .same _ rfl⟩, ⟨_, rfl, .sl 1 0 0 0 2 rfl⟩, ⟨_, rfl, .same _ rfl⟩, ⟨_, rfl, .sl 1 0 0 0 2 rfl⟩, trivial⟩ ⟨.inl ⟨0, _, rfl, by simp, rfl, lowB_same hpl⟩, trivial⟩
  · intro i hi N hN'
    have hcase : i = 0 ∨ i = 1 ∨ i = 2 := by omega
    have hneg : ∀ m : Nat, ((m : Int) < 0) = False := by intro m; simp
    have hT : ∀ (S : St) (i2 : Nat) (m : Nat), S.get 11 = some (.int .i64 (i2 : Nat)) → S.get 10 = some (.int .i64 2) → S.get 9 = some (.sl 1 0 0 2) → S.get 3 = some (.int .i64 (m : Nat)) → S.get 0 = some (.sl 1 0 0 2) → S.blk 0 = some (.rows 1 [[.fz 2 a], [.fz 2 b]]) →
        (Nm.mk 1 [] [] []).ok S.nx 16 = true → m = (if i2 = 0 then (0 : Nat) else if i2 = 1 then a.length else a.length + b.length : Nat) → i2 ≤ 2 → 2 - i2 < 2 - i → N S := by
      intro S i2 m g1 g2 g3 g4 g5 b0 hok hm h2 hlt
      refine hN' _ i2 h2 hlt (Sub.tell ⟨1, [], [], []⟩ hN hok ⟨⟨_, g1, .same _ rfl⟩, ⟨_, g2, .same _ rfl⟩, ⟨_, g3, .sl 1 0 0 0 2 rfl⟩, ⟨_, g4, by rw [hm]; exact .same _ rfl⟩, ⟨_, g5, .sl 1 0 0 0 2 rfl⟩, trivial⟩ ⟨.inl ⟨0, _, rfl, by simp, b0, lowB_same hpl⟩, trivial⟩)
    have w1 : IntKind.i64.wrap (((0 : Nat) : Int) + (a.length : Int)) = (a.length : Nat) := by rw [wrap_i64 (by omega) (by omega)]; omega
    have w2 : IntKind.i64.wrap ((a.length : Int) + (b.length : Int)) = ((a.length + b.length : Nat) : Int) := by rw [wrap_i64 (by omega) (by omega)]; omega
    rcases hcase with rfl | rfl | rfl
    · have hlt : (((0 : Nat) : Int) < 2) = True := by simp
      have hb2 : (0 : Int) ≤ ((0 : Nat) : Int) ∧ ((0 : Nat) : Int) < ((2 : Nat) : Int) := by omega
      simp only [EV, EX, hP, reduceIte, Nat.reduceEqDiff, Nat.reduceAdd, Nat.reduceSub, binA, IN, MX, buildA, fillA, faddrA, load_ptr, load_fp, rowOf_eq, packA, TK.isAgg, cellsOf, cellD, boxA, allocA, storeA, putCells, Nat.reduceLeDiff, extA, hlt, decide_true, iaddr_sl, elSize_eq ty102 ty44, hb2, ty44, len_fz ty44, w1, hneg, decide_false]
      exact hT _ 1 a.length rfl rfl rfl rfl rfl rfl rfl rfl (by omega) (by omega)
    · have hlt : (((1 : Nat) : Int) < 2) = True := by simp
      have hb2 : (0 : Int) ≤ ((1 : Nat) : Int) ∧ ((1 : Nat) : Int) < ((2 : Nat) : Int) := by omega
      simp only [EV, EX, hP, reduceIte, Nat.reduceEqDiff, Nat.reduceAdd, Nat.reduceSub, binA, IN, MX, buildA, fillA, faddrA, load_ptr, load_fp, rowOf_eq, packA, TK.isAgg, cellsOf, cellD, boxA, allocA, storeA, putCells, Nat.reduceLeDiff, extA, hlt, decide_true, iaddr_sl, elSize_eq ty102 ty44, hb2, ty44, len_fz ty44, w2, hneg, decide_false]
      exact hT _ 2 (a.length + b.length) rfl rfl rfl rfl rfl rfl rfl rfl (by omega) (by omega)
    · have hlt : (((2 : Nat) : Int) < 2) = False := by simp
      simp only [EV, EX, hP, reduceIte, Nat.reduceEqDiff, Nat.reduceAdd, Nat.reduceSub, binA, IN, hlt, decide_false]
      have hcall : ∀ (nb : Nat) (h : Nat → Option Blk), CallR Try.prog (.fn 73 [] []) [.nilsl, .int .i64 ((a.length + b.length : Nat) : Int)] h nb
          fun d U => (d = .nilsl ∧ U = []) ∨ ∃ rows, plainR rows = true ∧ d = .sl 2 nb 0 0 ∧ U = [(nb, some (.rows 2 rows))] := by
        intro nb h
        refine (s_growS (a.length + b.length) (by omega)).callR [] nb rfl List.Pairwise.nil rfl (plainL_ren _ rfl) trivial ?_
        rintro d U (⟨rfl, rfl⟩ | ⟨rows, hp, rfl, rfl⟩)
        · exact ⟨.nilsl, [], rfl, rfl, .inl ⟨rfl, rfl⟩⟩
        · refine ⟨.sl 2 nb 0 0, [(nb, some (.rows 2 rows))], by simp [ren, sg], ?_, .inr ⟨rows, hp, rfl, rfl⟩⟩
          simp [renU, renOB, renB, sg, plainR_ren rows hp]
      rw [← hP] at hcall
      refine callW_of (hcall _ _) ?_
      have hpa : ∀ jk, plainR jk = true → plainR (a ++ b ++ jk) = true ∧ plainR (a ++ jk) = true := by intro jk h; simp [plainR_append, ha, hb, h]
      rintro d U (⟨rfl, rfl⟩ | ⟨rows, hp, rfl, rfl⟩) <;> simp only [EV, EX, hP, reduceIte, Nat.reduceEqDiff, Nat.reduceAdd, Nat.reduceSub, binA, IN, len_sl ty102]
      · refine LoopW.by (fun (x : Nat × List (List DV)) => ⟨[(27, some (.int .i64 (x.1 : Nat))), (26, some (.int .i64 2)), (25, some (.sl 1 0 0 2)), (6, some (.sl 2 1 0 (if x.1 = 0 then [] else if x.1 = 1 then a else a ++ b).length))], [(0, some (.rows 1 [[.fz 2 a], [.fz 2 b]])), (1, some (.rows 2 ((if x.1 = 0 then [] else if x.1 = 1 then a else a ++ b) ++ x.2)))], 32⟩)
          (fun x => x.1 ≤ 2 ∧ plainR x.2 = true) (fun x => 2 - x.1) (0, []) ⟨by simp, rfl⟩ ?_ ?_
        · exact Sub.tell ⟨1, [], [(1, 2)], []⟩ hN rfl ⟨⟨_, rfl, .same _ rfl⟩, ⟨_, rfl, .same _ rfl⟩, ⟨_, rfl, .sl 1 0 0 0 2 rfl⟩, ⟨_, rfl, .own 2 1 rfl⟩, trivial⟩ ⟨.inl ⟨0, _, rfl, by simp, rfl, lowB_same hpl⟩, .inr ⟨2, rfl, rfl⟩, trivial⟩
        · rintro ⟨i, jk⟩ ⟨hi, hjk⟩ N2 hN2
          simp only at hi hjk hN2
          have hT2 : ∀ (S : St) (i2 nm : Nat) (cur jk : List (List DV)), S.get 27 = some (.int .i64 (i2 : Nat)) → S.get 26 = some (.int .i64 2) → S.get 25 = some (.sl 1 0 0 2) → S.get 6 = some (.sl 2 nm 0 cur.length) → S.blk 0 = some (.rows 1 [[.fz 2 a], [.fz 2 b]]) →
              S.blk nm = some (.rows 2 (cur ++ jk)) → (Nm.mk 1 [(nm, 1)] [] []).ok S.nx 32 = true → (Nm.mk 1 [(nm, 1)] [] []).new 0 = some 0 → (Nm.mk 1 [(nm, 1)] [] []).new nm = some 1 → cur = (if i2 = 0 then [] else if i2 = 1 then a else a ++ b) → plainR jk = true → i2 ≤ 2 → 2 - i2 < 2 - i → N2 S := by
            intro S i2 nm cur jk g1 g2 g3 g4 b0 b1 hok m0 m1 hcur hj h2 hlt
            have hpc : plainR (cur ++ jk) = true := by
              rw [plainR_append, hj, hcur]
              split
              · rfl
              · split
                · rw [ha]; rfl
                · rw [plainR_append, ha, hb]; rfl
            refine hN2 _ (i2, jk) ⟨h2, hj⟩ hlt (Sub.tell ⟨1, [(nm, 1)], [], []⟩ hN hok ⟨⟨_, g1, .same _ rfl⟩, ⟨_, g2, .same _ rfl⟩, ⟨_, g3, .sl 1 0 0 0 2 m0⟩, ⟨_, g4, by simp only [← hcur]; exact .sl 2 nm 1 0 _ m1⟩, trivial⟩ ⟨.inl ⟨0, _, m0, by simp, b0, lowB_same hpl⟩, .inl ⟨nm, _, m1, by simp, b1, by simp only [← hcur]; exact lowB_same hpc⟩, trivial⟩)
          have hcase : i = 0 ∨ i = 1 ∨ i = 2 := by omega
          rcases hcase with rfl | rfl | rfl
          · have hlt : (((0 : Nat) : Int) < 2) = True := by simp
            have hb2 : (0 : Int) ≤ ((0 : Nat) : Int) ∧ ((0 : Nat) : Int) < ((2 : Nat) : Int) := by omega
            have hroom : (((0 : Nat) : Int) + (a.length : Int)) * ((16 : Nat) : Int) ≤ 140737488355328 := by omega
            simp only [EV, EX, hP, reduceIte, Nat.reduceEqDiff, Nat.reduceAdd, Nat.reduceSub, binA, IN, MX, buildA, fillA, faddrA, load_ptr, load_fp, rowOf_eq, packA, TK.isAgg, cellsOf, cellD, boxA, allocA, storeA, putCells, Nat.reduceLeDiff, extA, hlt, decide_true, iaddr_sl, elSize_eq ty102 ty44, hb2, ty44, if_true, List.length_nil, appA, elTI_eq ty44, ty73, rowsOf, Nat.zero_le, true_and, and_true, hroom, List.take_zero]
            exact hT2 _ 1 128 a [] rfl rfl rfl rfl rfl (by rw [List.append_nil]; rfl) rfl rfl rfl rfl rfl (by omega) (by omega)
          · have hlt : (((1 : Nat) : Int) < 2) = True := by simp
            have hb2 : (0 : Int) ≤ ((1 : Nat) : Int) ∧ ((1 : Nat) : Int) < ((2 : Nat) : Int) := by omega
            have hroom : ((a.length : Int) + (b.length : Int)) * ((16 : Nat) : Int) ≤ 140737488355328 := by omega
            have hle : a.length ≤ (a ++ jk).length := by rw [List.length_append]; omega
            have htk : (a ++ jk).take a.length = a := List.take_left
            have e1 : (1 : Nat) = 0 ↔ False := by simp
            simp only [EV, EX, hP, reduceIte, Nat.reduceEqDiff, Nat.reduceAdd, Nat.reduceSub, binA, IN, MX, buildA, fillA, faddrA, load_ptr, load_fp, rowOf_eq, packA, TK.isAgg, cellsOf, cellD, boxA, allocA, storeA, putCells, Nat.reduceLeDiff, extA, hlt, decide_true, iaddr_sl, elSize_eq ty102 ty44, hb2, ty44, e1, if_true, if_false, appA, elTI_eq ty44, ty73, rowsOf, Nat.zero_le, true_and, and_true, hroom, hle, htk]
            exact hT2 _ 2 128 (a ++ b) [] rfl rfl rfl (by rw [List.length_append]; rfl) rfl (by rw [List.append_nil]; rfl) rfl rfl rfl rfl rfl (by omega) (by omega)
          · have hlt : (((2 : Nat) : Int) < 2) = False := by simp
            have e1 : (2 : Nat) = 0 ↔ False := by simp
            have e2 : (2 : Nat) = 1 ↔ False := by simp
            simp only [EV, EX, hP, reduceIte, Nat.reduceEqDiff, Nat.reduceAdd, Nat.reduceSub, binA, IN, hlt, decide_false, e1, e2, if_false]
            refine hQ _ ⟨⟨1, [], [], [1]⟩, [.sl 2 1 0 (a ++ b).length], [.fz 2 (a ++ b)], [], rfl, Nat.le_refl _, rfl, .cons _ _ _ _ (Tl.freeze (by simp) rfl (by simp only [List.length_append]; omega) ?_ (by rw [plainR_append, ha, hb]; rfl) ?_) .nil, ⟨.inl ⟨0, _, rfl, by simp, rfl, lowB_same hpl⟩, trivial⟩, rfl, rfl⟩
            · rw [List.drop_zero, List.take_left]
            · intro r hr
              rcases List.mem_append.1 hr with h | h
              · exact hka r h
              · exact hkb r h
      · refine LoopW.by (fun (x : Nat × List (List DV)) => ⟨[(27, some (.int .i64 (x.1 : Nat))), (26, some (.int .i64 2)), (25, some (.sl 1 0 0 2)), (6, some (.sl 2 1 0 (if x.1 = 0 then [] else if x.1 = 1 then a else a ++ b).length))], [(0, some (.rows 1 [[.fz 2 a], [.fz 2 b]])), (1, some (.rows 2 ((if x.1 = 0 then [] else if x.1 = 1 then a else a ++ b) ++ x.2)))], 32⟩)
          (fun x => x.1 ≤ 2 ∧ plainR x.2 = true) (fun x => 2 - x.1) (0, rows) ⟨by simp, hp⟩ ?_ ?_
        · exact Sub.tell ⟨1, [(48, 1)], [], []⟩ hN rfl ⟨⟨_, rfl, .same _ rfl⟩, ⟨_, rfl, .same _ rfl⟩, ⟨_, rfl, .sl 1 0 0 0 2 rfl⟩, ⟨_, rfl, .sl 2 48 1 0 0 rfl⟩, trivial⟩ ⟨.inl ⟨0, _, rfl, by simp, rfl, lowB_same hpl⟩, .inl ⟨48, _, rfl, by simp, rfl, lowB_same hp⟩, trivial⟩
        · rintro ⟨i, jk⟩ ⟨hi, hjk⟩ N2 hN2
          simp only at hi hjk hN2
          have hT2 : ∀ (S : St) (i2 nm : Nat) (cur jk : List (List DV)), S.get 27 = some (.int .i64 (i2 : Nat)) → S.get 26 = some (.int .i64 2) → S.get 25 = some (.sl 1 0 0 2) → S.get 6 = some (.sl 2 nm 0 cur.length) → S.blk 0 = some (.rows 1 [[.fz 2 a], [.fz 2 b]]) →
              S.blk nm = some (.rows 2 (cur ++ jk)) → (Nm.mk 1 [(nm, 1)] [] []).ok S.nx 32 = true → (Nm.mk 1 [(nm, 1)] [] []).new 0 = some 0 → (Nm.mk 1 [(nm, 1)] [] []).new nm = some 1 → cur = (if i2 = 0 then [] else if i2 = 1 then a else a ++ b) → plainR jk = true → i2 ≤ 2 → 2 - i2 < 2 - i → N2 S := by
            intro S i2 nm cur jk g1 g2 g3 g4 b0 b1 hok m0 m1 hcur hj h2 hlt
            have hpc : plainR (cur ++ jk) = true := by
              rw [plainR_append, hj, hcur]
              split
              · rfl
              · split
                · rw [ha]; rfl
                · rw [plainR_append, ha, hb]; rfl
            refine hN2 _ (i2, jk) ⟨h2, hj⟩ hlt (Sub.tell ⟨1, [(nm, 1)], [], []⟩ hN hok ⟨⟨_, g1, .same _ rfl⟩, ⟨_, g2, .same _ rfl⟩, ⟨_, g3, .sl 1 0 0 0 2 m0⟩, ⟨_, g4, by simp only [← hcur]; exact .sl 2 nm 1 0 _ m1⟩, trivial⟩ ⟨.inl ⟨0, _, m0, by simp, b0, lowB_same hpl⟩, .inl ⟨nm, _, m1, by simp, b1, by simp only [← hcur]; exact lowB_same hpc⟩, trivial⟩)
          have hcase : i = 0 ∨ i = 1 ∨ i = 2 := by omega
          rcases hcase with rfl | rfl | rfl
          · have hlt : (((0 : Nat) : Int) < 2) = True := by simp
            have hb2 : (0 : Int) ≤ ((0 : Nat) : Int) ∧ ((0 : Nat) : Int) < ((2 : Nat) : Int) := by omega
            have hroom : (((0 : Nat) : Int) + (a.length : Int)) * ((16 : Nat) : Int) ≤ 140737488355328 := by omega
            simp only [EV, EX, hP, reduceIte, Nat.reduceEqDiff, Nat.reduceAdd, Nat.reduceSub, binA, IN, MX, buildA, fillA, faddrA, load_ptr, load_fp, rowOf_eq, packA, TK.isAgg, cellsOf, cellD, boxA, allocA, storeA, putCells, Nat.reduceLeDiff, extA, hlt, decide_true, iaddr_sl, elSize_eq ty102 ty44, hb2, ty44, if_true, List.length_nil, appA, elTI_eq ty44, ty73, rowsOf, Nat.zero_le, true_and, and_true, hroom, List.take_zero]
            exact hT2 _ 1 128 a [] rfl rfl rfl rfl rfl (by rw [List.append_nil]; rfl) rfl rfl rfl rfl rfl (by omega) (by omega)
          · have hlt : (((1 : Nat) : Int) < 2) = True := by simp
            have hb2 : (0 : Int) ≤ ((1 : Nat) : Int) ∧ ((1 : Nat) : Int) < ((2 : Nat) : Int) := by omega
            have hroom : ((a.length : Int) + (b.length : Int)) * ((16 : Nat) : Int) ≤ 140737488355328 := by omega
            have hle : a.length ≤ (a ++ jk).length := by rw [List.length_append]; omega
            have htk : (a ++ jk).take a.length = a := List.take_left
            have e1 : (1 : Nat) = 0 ↔ False := by simp
            simp only [EV, EX, hP, reduceIte, Nat.reduceEqDiff, Nat.reduceAdd, Nat.reduceSub, binA, IN, MX, buildA, fillA, faddrA, load_ptr, load_fp, rowOf_eq, packA, TK.isAgg, cellsOf, cellD, boxA, allocA, storeA, putCells, Nat.reduceLeDiff, extA, hlt, decide_true, iaddr_sl, elSize_eq ty102 ty44, hb2, ty44, e1, if_true, if_false, appA, elTI_eq ty44, ty73, rowsOf, Nat.zero_le, true_and, and_true, hroom, hle, htk]
            exact hT2 _ 2 128 (a ++ b) [] rfl rfl rfl (by rw [List.length_append]; rfl) rfl (by rw [List.append_nil]; rfl) rfl rfl rfl rfl rfl (by omega) (by omega)
          · have hlt : (((2 : Nat) : Int) < 2) = False := by simp
            have e1 : (2 : Nat) = 0 ↔ False := by simp
            have e2 : (2 : Nat) = 1 ↔ False := by simp
            simp only [EV, EX, hP, reduceIte, Nat.reduceEqDiff, Nat.reduceAdd, Nat.reduceSub, binA, IN, hlt, decide_false, e1, e2, if_false]
            refine hQ _ ⟨⟨1, [], [], [1]⟩, [.sl 2 1 0 (a ++ b).length], [.fz 2 (a ++ b)], [], rfl, Nat.le_refl _, rfl, .cons _ _ _ _ (Tl.freeze (by simp) rfl (by simp only [List.length_append]; omega) ?_ (by rw [plainR_append, ha, hb]; rfl) ?_) .nil, ⟨.inl ⟨0, _, rfl, by simp, rfl, lowB_same hpl⟩, trivial⟩, rfl, rfl⟩
            · rw [List.drop_zero, List.take_left]
            · intro r hr
              rcases List.mem_append.1 hr with h | h
              · exact hka r h
              · exact hkb r h
end Go.Fv
/- CONTRACTS: task. -/
namespace Go.Fv
open Go.Proofs

structure Tk where
  rank : Int
  period : Int
  fin : Int
  main : List Inst
  way : List Inst
  opt : List Inst
def Tk.row (t : Tk) : List DV := [.int .i64 t.rank, .int .i64 t.period, .int .i64 t.fin, .fz 4 (instRows t.main), .fz 4 (instRows t.way), .fz 4 (instRows t.opt)]
theorem Tk.row_plain (t : Tk) : plainL t.row = true := by simp [Tk.row, plainL, plain, instRows_plain]
def Tk.fit (t : Tk) : Prop := t.main.length ≤ 1000 ∧ t.way.length ≤ 1000 ∧ t.opt.length ≤ 1000
def tkRows (l : List Tk) : List (List DV) := l.map Tk.row
theorem tkRows_plain (l : List Tk) : plainR (tkRows l) = true := plainR_map Tk.row_plain
theorem tkRows_length (l : List Tk) : (tkRows l).length = l.length := by simp [tkRows]
theorem tkRows_getD {l : List Tk} {i : Nat} (h : i < l.length) : (tkRows l).getD i [] = l[i].row := getD_map _ _ _ _ h

def orNone (l : List Inst) : Bool := decide (l.length = 0) || shapeMay l
def lockIn (l : List Inst) : Bool := l.any fun x => decide (x.op = 9)
def longP (l : List Inst) : Int := match costP l with | some c => c.all | none => 0

theorem s_taskMay1 (l : List Inst) (hl : l.length ≤ maxL) : Pure Try.prog 64 [.fz 4 (instRows l)] (.bool (orNone l)) := by
  refine Spec.walk ok64 fun C Q hP hN hQ => ?_
  unfold c64
  simp only [EV, EX, hP, reduceIte, Nat.reduceEqDiff, Nat.reduceAdd, Nat.reduceSub, binA, IN, len_fz ty34, instRows_length]
  by_cases h : (l.length : Int) = 0
  · simp only [EV, EX, hP, reduceIte, Nat.reduceEqDiff, Nat.reduceAdd, Nat.reduceSub, binA, IN, h, decide_true, pickA]
    refine hQ _ <| retQ_pure _ rfl rfl ⟨?_, rfl⟩
    have : l.length = 0 := by omega
    simp only [retV, orNone, this, decide_true, Bool.true_or]
  · simp only [EV, EX, hP, reduceIte, Nat.reduceEqDiff, Nat.reduceAdd, Nat.reduceSub, binA, IN, h, decide_false, pickA]
    refine callW_pure hP (s_shapeMay l hl) (by simp [plainL, plain, instRows_plain]) rfl ?_
    simp only [EV, EX, hP, reduceIte, Nat.reduceEqDiff, Nat.reduceAdd, Nat.reduceSub, binA, IN, pickA]
    refine hQ _ <| retQ_pure _ rfl rfl ⟨?_, rfl⟩
    have : ¬ l.length = 0 := by omega
    simp only [retV, orNone, this, decide_false, Bool.false_or]

theorem s_locks (l : List Inst) (hl : l.length ≤ maxL) : Pure Try.prog 65 [.fz 4 (instRows l)] (.bool (lockIn l)) := by
  refine Spec.walk ok65 fun C Q hP hN hQ => ?_
  unfold c65
  simp only [EV, EX, hP, reduceIte, Nat.reduceEqDiff, Nat.reduceAdd, Nat.reduceSub, binA, IN]
  refine callW_clo (caps := []) hP (s_hasInsts l hl _ [] (fun x => decide (x.op = 9)) rfl (fun x _ => s_locks1 x)) (by simp [plainL, plain, instRows_plain]) rfl ?_
  simp only [EV, EX, hP, reduceIte, Nat.reduceEqDiff, Nat.reduceAdd, Nat.reduceSub, binA, IN]
  exact hQ _ <| retQ_pure _ rfl rfl ⟨rfl, rfl⟩

theorem s_long (l : List Inst) (hl : l.length ≤ maxL) : Pure Try.prog 66 [.fz 4 (instRows l)] (.int .i64 (longP l)) := by
  refine Spec.walk ok66 fun C Q hP hN hQ => ?_
  unfold c66
  simp only [EV, EX, hP, reduceIte, Nat.reduceEqDiff, Nat.reduceAdd, Nat.reduceSub, binA, IN]
  refine callW_pure hP (s_costOf l hl) (by simp [plainL, plain, instRows_plain]) (costD_plain _) ?_
  cases hc : costP l with
  | none =>
    simp only [EV, EX, hP, reduceIte, Nat.reduceEqDiff, Nat.reduceAdd, Nat.reduceSub, binA, IN, MX, buildA, fillA, faddrA, load_ptr, load_fp, rowOf_eq, packA, TK.isAgg, cellsOf, cellD, boxA, allocA, storeA, putCells, Nat.reduceLeDiff, extA, costD, extA, ty75, ty2, cells_agg]
    exact hQ _ <| retQ_pure _ rfl rfl ⟨by simp only [longP, hc]; rfl, rfl⟩
  | some c =>
    simp only [EV, EX, hP, reduceIte, Nat.reduceEqDiff, Nat.reduceAdd, Nat.reduceSub, binA, IN, MX, buildA, fillA, faddrA, load_ptr, load_fp, rowOf_eq, packA, TK.isAgg, cellsOf, cellD, boxA, allocA, storeA, putCells, Nat.reduceLeDiff, extA, costD, Cost.dv, extA, ty75, ty2, cells_agg]
    exact hQ _ <| retQ_pure _ rfl rfl ⟨by simp only [longP, hc]; rfl, rfl⟩

/-- Why a task may not be; 0: it may. -/
def mayT (t : Tk) : Int :=
  if t.rank < 0 ∨ 63 < t.rank then 1
  else if t.period < 1 ∨ 16384 < t.period ∨ t.fin < 1 ∨ t.period < t.fin then 9
  else if shapeMay t.main = false ∨ orNone t.way = false ∨ orNone t.opt = false ∨ lockIn t.opt = true then 2
  else if t.fin < longP t.main then 10
  else if longP t.main < longP t.way then 12
  else 0

set_option maxRecDepth 100000 in
theorem s_taskMay (t : Tk) (hf : t.fit) : Pure Try.prog 46 [.agg t.row] (.int .i64 (mayT t)) := by
  obtain ⟨h1, h2, h3⟩ := hf
  have hM : maxL = 281474976710656 := rfl
  have c1 := s_shapeMay t.main (by omega)
  have c2 := s_taskMay1 t.way (by omega)
  have c3 := s_taskMay1 t.opt (by omega)
  have c4 := s_locks t.opt (by omega)
  have c5 := s_long t.main (by omega)
  have c6 := s_long t.way (by omega)
  refine Spec.walk ok46 fun C Q hP hN hQ => ?_
  unfold c46
  unfold mayT at hQ
  obtain ⟨rank, period, fin, main, way, opt⟩ := t
  simp only at c1 c2 c3 c4 c5 c6 hQ
  generalize shapeMay main = b1 at *
  generalize orNone way = b2 at *
  generalize orNone opt = b3 at *
  generalize lockIn opt = b4 at *
  generalize longP main = n1 at *
  generalize longP way = n2 at *
  have hp : ∀ l, plainL [DV.fz 4 (instRows l)] = true := fun l => by simp [plainL, plain, instRows_plain]
  simp only [EV, EX, hP, reduceIte, Nat.reduceEqDiff, Nat.reduceAdd, Nat.reduceSub, binA, IN, MX, buildA, fillA, faddrA, load_ptr, load_fp, rowOf_eq, packA, TK.isAgg, cellsOf, cellD, boxA, allocA, storeA, putCells, Nat.reduceLeDiff, extA, Tk.row, ty36, ty3, ty2, ty34]
  repeat' (first
    | (refine condS_d (fun h => ?_) (fun h => ?_) <;> simp only [EV, EX, hP, reduceIte, Nat.reduceEqDiff, Nat.reduceAdd, Nat.reduceSub, binA, IN, MX, buildA, fillA, faddrA, load_ptr, load_fp, rowOf_eq, packA, TK.isAgg, cellsOf, cellD, boxA, allocA, storeA, putCells, Nat.reduceLeDiff, extA, DR, DX, Nat.reduceMul, keysU, ty36, ty3, ty2, ty34, pickA, h, decide_true, decide_false])
    | (refine gdS_fd (fun h => ?_) (fun h => ?_) <;> simp only [EV, EX, hP, reduceIte, Nat.reduceEqDiff, Nat.reduceAdd, Nat.reduceSub, binA, IN, MX, buildA, fillA, faddrA, load_ptr, load_fp, rowOf_eq, packA, TK.isAgg, cellsOf, cellD, boxA, allocA, storeA, putCells, Nat.reduceLeDiff, extA, ty36, ty3, ty2, ty34, pickA, h, decide_true, decide_false])
    | (refine condS_i (fun h => ?_) (fun h => ?_) <;> simp only [EV, EX, hP, reduceIte, Nat.reduceEqDiff, Nat.reduceAdd, Nat.reduceSub, binA, IN, MX, buildA, fillA, faddrA, load_ptr, load_fp, rowOf_eq, packA, TK.isAgg, cellsOf, cellD, boxA, allocA, storeA, putCells, Nat.reduceLeDiff, extA, DR, DX, Nat.reduceMul, keysU, ty36, ty3, ty2, ty34, pickA])
    | (refine gdS_f (fun h => ?_) (fun h => ?_) <;> simp only [EV, EX, hP, reduceIte, Nat.reduceEqDiff, Nat.reduceAdd, Nat.reduceSub, binA, IN, MX, buildA, fillA, faddrA, load_ptr, load_fp, rowOf_eq, packA, TK.isAgg, cellsOf, cellD, boxA, allocA, storeA, putCells, Nat.reduceLeDiff, extA, ty36, ty3, ty2, ty34, pickA, h])
    | (refine callW_pure hP c1 (hp _) rfl ?_; simp only [EV, EX, hP, reduceIte, Nat.reduceEqDiff, Nat.reduceAdd, Nat.reduceSub, binA, IN, MX, buildA, fillA, faddrA, load_ptr, load_fp, rowOf_eq, packA, TK.isAgg, cellsOf, cellD, boxA, allocA, storeA, putCells, Nat.reduceLeDiff, extA, ty36, ty3, ty2, ty34, pickA, unA])
    | (refine callW_pure hP c2 (hp _) rfl ?_; simp only [EV, EX, hP, reduceIte, Nat.reduceEqDiff, Nat.reduceAdd, Nat.reduceSub, binA, IN, MX, buildA, fillA, faddrA, load_ptr, load_fp, rowOf_eq, packA, TK.isAgg, cellsOf, cellD, boxA, allocA, storeA, putCells, Nat.reduceLeDiff, extA, ty36, ty3, ty2, ty34, pickA, unA])
    | (refine callW_pure hP c3 (hp _) rfl ?_; simp only [EV, EX, hP, reduceIte, Nat.reduceEqDiff, Nat.reduceAdd, Nat.reduceSub, binA, IN, MX, buildA, fillA, faddrA, load_ptr, load_fp, rowOf_eq, packA, TK.isAgg, cellsOf, cellD, boxA, allocA, storeA, putCells, Nat.reduceLeDiff, extA, ty36, ty3, ty2, ty34, pickA, unA])
    | (refine callW_pure hP c4 (hp _) rfl ?_; simp only [EV, EX, hP, reduceIte, Nat.reduceEqDiff, Nat.reduceAdd, Nat.reduceSub, binA, IN, MX, buildA, fillA, faddrA, load_ptr, load_fp, rowOf_eq, packA, TK.isAgg, cellsOf, cellD, boxA, allocA, storeA, putCells, Nat.reduceLeDiff, extA, ty36, ty3, ty2, ty34, pickA, unA])
    | (refine callD_pure hP c5 (hp _) rfl ?_; simp only [EV, EX, hP, reduceIte, Nat.reduceEqDiff, Nat.reduceAdd, Nat.reduceSub, binA, IN, MX, buildA, fillA, faddrA, load_ptr, load_fp, rowOf_eq, packA, TK.isAgg, cellsOf, cellD, boxA, allocA, storeA, putCells, Nat.reduceLeDiff, extA, DR, DX, Nat.reduceMul, keysU, ty36, ty3, ty2, ty34, drF_eq])
    | (refine callD_pure hP c6 (hp _) rfl ?_; simp only [EV, EX, hP, reduceIte, Nat.reduceEqDiff, Nat.reduceAdd, Nat.reduceSub, binA, IN, MX, buildA, fillA, faddrA, load_ptr, load_fp, rowOf_eq, packA, TK.isAgg, cellsOf, cellD, boxA, allocA, storeA, putCells, Nat.reduceLeDiff, extA, DR, DX, Nat.reduceMul, keysU, ty36, ty3, ty2, ty34, drF_eq])
    | (refine ⟨by kernel_rfl, ?_⟩)
    | (refine hQ _ <| retQ_pure _ rfl rfl ⟨?_, rfl⟩))
  all_goals (simp only [retV]; congr 1; repeat' split)
  all_goals first
    | rfl
    | omega
    | (exfalso; simp_all; done)
    | (exfalso; simp_all; omega)
    | (exfalso; simp_all <;> omega)
    | trace_state
end Go.Fv
/- CONTRACTS: task.Costs. -/
namespace Go.Fv
open Go.Proofs

theorem costP_some {l : List Inst} (h : shapeMay l = true) : ∃ c, costP l = some c := by
  obtain ⟨_, _, _, _, ps, hp, _⟩ := shapeMay_inv h
  simp only [costP, h, if_true, hp]
  exact ⟨_, rfl⟩
theorem mayT_main {t : Tk} (h : mayT t = 0) : shapeMay t.main = true := by
  unfold mayT at h
  split at h
  · omega
  · split at h
    · omega
    · split at h
      · omega
      · rename_i h3
        cases hs : shapeMay t.main with
        | true => rfl
        | false => exact absurd (Or.inl hs) h3

theorem costP_spans {l : List Inst} {c : Cost} (h : costP l = some c) : c.spans.length ≤ 24 := by
  unfold costP at h
  split at h
  · rename_i hs
    obtain ⟨hl, _⟩ := shapeMay_inv hs
    split at h
    · cases h
      exact Nat.le_trans (costUpto_spans _) hl.2
    · cases h
  · cases h

/-- How long a task is, what is lost at most, where it holds something. -/
def costsT (t : Tk) : Int × Int × List (Int × Int) :=
  if mayT t = 0 then
    match costP t.main, costP t.way with
    | some m, some w => (m.all, w.all, m.spans ++ w.spans)
    | some m, none => (m.all, m.piece, m.spans)
    | none, _ => (0, 0, [])
  else (0, 0, [])
def costsD (x : Int × Int × List (Int × Int)) : DV := .tup [.int .i64 x.1, .int .i64 x.2.1, .fz 2 (spanRows x.2.2)]
theorem costsD_plain (x : Int × Int × List (Int × Int)) : plain (costsD x) = true := by simp only [costsD, plain, plainL, spanRows_plain, Bool.and_self]
theorem costsT_spans (t : Tk) : (costsT t).2.2.length ≤ 48 := by
  unfold costsT
  split
  · split
    · rename_i m w h1 h2
      have := costP_spans h1; have := costP_spans h2
      simp only [List.length_append]; omega
    · rename_i m h1 h2
      have := costP_spans h1
      simp only; omega
    · simp
  · simp

set_option maxRecDepth 100000 in
theorem s_costs (t : Tk) (hf : t.fit) : Pure Try.prog 35 [.agg t.row] (costsD (costsT t)) := by
  have c0 := s_taskMay t hf
  have hM : maxL = 281474976710656 := rfl
  have c1 := s_costOf t.main (by unfold Tk.fit at hf; omega)
  have c2 := s_costOf t.way (by unfold Tk.fit at hf; omega)
  have hmain := mayT_main (t := t)
  refine Spec.walk ok35 fun C Q hP hN hQ => ?_
  unfold c35
  unfold costsT at hQ
  have hsp1 := fun c => costP_spans (l := t.main) (c := c)
  have hsp2 := fun c => costP_spans (l := t.way) (c := c)
  have htp := Tk.row_plain t
  have hp : ∀ l, plainL [DV.fz 4 (instRows l)] = true := fun l => by simp [plainL, plain, instRows_plain]
  obtain ⟨rank, period, fin, main, way, opt⟩ := t
  simp only [Tk.row] at c0 htp
  simp only at c1 c2 hmain hQ hsp1 hsp2
  generalize mayT ⟨rank, period, fin, main, way, opt⟩ = m at *
  simp only [EV, EX, hP, reduceIte, Nat.reduceEqDiff, Nat.reduceAdd, Nat.reduceSub, binA, IN, MX, buildA, fillA, faddrA, load_ptr, load_fp, rowOf_eq, packA, TK.isAgg, cellsOf, cellD, boxA, allocA, storeA, putCells, Nat.reduceLeDiff, extA, Tk.row, ty36]
  refine callW_pure hP c0 (by simpa [plainL, plain] using htp) rfl ?_
  simp only [EV, EX, hP, reduceIte, Nat.reduceEqDiff, Nat.reduceAdd, Nat.reduceSub, binA, IN, MX, buildA, fillA, faddrA, load_ptr, load_fp, rowOf_eq, packA, TK.isAgg, cellsOf, cellD, boxA, allocA, storeA, putCells, Nat.reduceLeDiff, extA]
  refine condS_i (fun h => ?_) (fun h => ?_)
  · have h : ¬ m = 0 := by simpa using h
    rw [if_neg h] at hQ
    simp only [EV, EX, hP, reduceIte, Nat.reduceEqDiff, Nat.reduceAdd, Nat.reduceSub, binA, IN]
    exact hQ _ ⟨⟨0, [], [], []⟩, [.int .i64 0, .int .i64 0, .nilsl], [.int .i64 0, .int .i64 0, .fz 2 []], [], rfl, Nat.le_refl _, rfl, .cons _ _ _ _ (.same _ rfl) (.cons _ _ _ _ (.same _ rfl) (.cons _ _ _ _ (.nf 2) .nil)), trivial, rfl, rfl⟩
  · have h : m = 0 := by simpa using h
    rw [if_pos h] at hQ
    obtain ⟨c, hc⟩ := costP_some (hmain h)
    rw [hc] at c1 hQ
    have hs1 := hsp1 c hc
    simp only [EV, EX, hP, reduceIte, Nat.reduceEqDiff, Nat.reduceAdd, Nat.reduceSub, binA, IN, MX, buildA, fillA, faddrA, load_ptr, load_fp, rowOf_eq, packA, TK.isAgg, cellsOf, cellD, boxA, allocA, storeA, putCells, Nat.reduceLeDiff, extA, ty36, ty34]
    refine callW_pure hP c1 (hp _) (costD_plain _) ?_
    simp only [EV, EX, hP, reduceIte, Nat.reduceEqDiff, Nat.reduceAdd, Nat.reduceSub, binA, IN, MX, buildA, fillA, faddrA, load_ptr, load_fp, rowOf_eq, packA, TK.isAgg, cellsOf, cellD, boxA, allocA, storeA, putCells, Nat.reduceLeDiff, extA, costD, Cost.dv, extA, ty75, cells_agg, List.length_cons, List.length_nil, ty36, ty34]
    refine callW_pure hP c2 (hp _) (costD_plain _) ?_
    have hcat : ∀ (sp : List (Int × Int)) (nm nb : Nat) (h : Nat → Option Blk), sp.length ≤ 24 → h nm = some (.rows 1 [[.fz 2 (spanRows c.spans)], [.fz 2 (spanRows sp)]]) →
        CallFx Try.prog (.fn 54 [] []) [.sl 1 nm 0 2] h nb (.fz 2 (spanRows (c.spans ++ sp))) [] [nm] := by
      intro sp nm nb h hl hb
      refine callFx_of fun h2 hh => ?_
      refine (s_concatS (spanRows c.spans) (spanRows sp) (spanRows_plain _) (spanRows_plain _) (by rw [spanRows_length]; omega) (by rw [spanRows_length]; omega) (spanRows_rows _) (spanRows_rows _)).callR [nm] nb rfl (by simp) rfl (by simp [renL, ren, sg]) ⟨⟨_, .rows 1 [[.fz 2 (spanRows c.spans)], [.fz 2 (spanRows sp)]], rfl, ?_, ?_⟩, trivial⟩ ?_
      · simp [renB, renR, renL, plain_ren, plain, spanRows_plain, ren, plainR_ren]
      · rw [hh nm (by simp)]; exact hb
      · rintro d U ⟨rfl, rfl⟩
        exact ⟨_, [], plain_ren _ (by simp only [plain, plainR_append, spanRows_plain, Bool.and_self]), rfl, by rw [spanRows_append], rfl⟩
    rw [← hP] at hcat
    cases hw : costP way with
    | none =>
      rw [hw] at hQ
      simp only at hQ
      simp only [EV, EX, hP, reduceIte, Nat.reduceEqDiff, Nat.reduceAdd, Nat.reduceSub, binA, IN, MX, buildA, fillA, faddrA, load_ptr, load_fp, rowOf_eq, packA, TK.isAgg, cellsOf, cellD, boxA, allocA, storeA, putCells, Nat.reduceLeDiff, extA, DR, DX, Nat.reduceMul, keysU, costD, Cost.dv, extA, ty75, cells_agg, List.length_cons, List.length_nil, ty36, ty34, ty2, ty44, bslA, elTI_eq ty102, setRows, List.replicate_succ, List.replicate_zero, List.getD_cons_zero, List.getD_cons_succ, Nat.reduceLT, Nat.reduceMul, true_and, and_true]
      refine ⟨_, _, _, [], [576], rfl, rfl, hcat [] 576 _ _ (by simp) rfl, ?_⟩
      simp only [EV, EX, hP, reduceIte, Nat.reduceEqDiff, Nat.reduceAdd, Nat.reduceSub, DR, DX, Nat.reduceMul, keysU, drF_eq]
      refine ⟨by kernel_rfl, ?_⟩

      exact hQ _ <| retQ_pure [.int .i64 c.all, .int .i64 c.piece, .fz 2 (spanRows c.spans)] rfl (by simp only [plainL, plain, spanRows_plain, Bool.and_self]) ⟨rfl, rfl⟩
    | some w =>
      rw [hw] at hQ
      have hs2 := hsp2 w hw
      simp only at hQ
      simp only [EV, EX, hP, reduceIte, Nat.reduceEqDiff, Nat.reduceAdd, Nat.reduceSub, binA, IN, MX, buildA, fillA, faddrA, load_ptr, load_fp, rowOf_eq, packA, TK.isAgg, cellsOf, cellD, boxA, allocA, storeA, putCells, Nat.reduceLeDiff, extA, DR, DX, Nat.reduceMul, keysU, costD, Cost.dv, extA, ty75, cells_agg, List.length_cons, List.length_nil, ty36, ty34, ty2, ty44, bslA, elTI_eq ty102, setRows, List.replicate_succ, List.replicate_zero, List.getD_cons_zero, List.getD_cons_succ, Nat.reduceLT, Nat.reduceMul, true_and, and_true]
      refine ⟨_, _, _, [], [624], rfl, rfl, hcat w.spans 624 _ _ (by omega) rfl, ?_⟩
      simp only [EV, EX, hP, reduceIte, Nat.reduceEqDiff, Nat.reduceAdd, Nat.reduceSub, DR, DX, Nat.reduceMul, keysU, drF_eq]
      refine ⟨by kernel_rfl, ?_⟩
      exact hQ _ <| retQ_pure [.int .i64 c.all, .int .i64 w.all, .fz 2 (spanRows (c.spans ++ w.spans))] rfl (by simp only [plainL, plain, spanRows_plain, Bool.and_self]) ⟨rfl, rfl⟩
end Go.Fv
/- CONTRACTS: block. -/
namespace Go.Fv
open Go.Proofs

/-- Whether an instruction locks a semaphore. -/
def locksI (s : Int) (x : Inst) : Bool := decide (x.op = 9) && decide (x.a = s)
def locksT (s : Int) (t : Tk) : Bool := (t.main ++ t.way).any (locksI s)
theorem instRows_append (a b : List Inst) : instRows (a ++ b) = instRows a ++ instRows b := by simp [instRows]
theorem instRows_rows (l : List Inst) : ∀ r ∈ instRows l, r.length = 4 := by intro r hr; obtain ⟨x, _, rfl⟩ := List.mem_map.1 hr; rfl

theorem s_ceil11 (s : Int) (x : Inst) : Pure Try.prog 80 ([.agg x.row] ++ [.fp [.int .i64 s]]) (.bool (locksI s x)) := by
  refine Spec.walk ok80 fun C Q hP hN hQ => ?_
  unfold c80
  obtain ⟨a, b, c, d⟩ := x
  simp only [EV, EX, hP, reduceIte, Nat.reduceEqDiff, Nat.reduceAdd, Nat.reduceSub, binA, IN, MX, buildA, fillA, faddrA, load_ptr, load_fp, rowOf_eq, packA, TK.isAgg, cellsOf, cellD, boxA, allocA, storeA, putCells, Nat.reduceLeDiff, extA, Inst.row, ty60, ty3]
  refine gdS_td (fun h => ?_) (fun h => ?_) <;> simp only [EV, EX, hP, reduceIte, Nat.reduceEqDiff, Nat.reduceAdd, Nat.reduceSub, binA, IN, MX, buildA, fillA, faddrA, load_ptr, load_fp, rowOf_eq, packA, TK.isAgg, cellsOf, cellD, boxA, allocA, storeA, putCells, Nat.reduceLeDiff, extA, ty60, ty3, pickA, h, decide_true, decide_false] <;> refine hQ _ <| retQ_pure _ rfl rfl ⟨?_, rfl⟩ <;> simp [retV, locksI, h]

theorem s_ceil1 (s : Int) (t : Tk) (hf : t.fit) : Pure Try.prog 77 ([.agg t.row] ++ [.fp [.int .i64 s]]) (.bool (locksT s t)) := by
  refine Spec.walk ok77 fun C Q hP hN hQ => ?_
  unfold c77
  obtain ⟨rank, period, fin, main, way, opt⟩ := t
  have hM : maxL = 281474976710656 := rfl
  unfold Tk.fit at hf
  simp only at hf
  simp only [EV, EX, hP, reduceIte, Nat.reduceEqDiff, Nat.reduceAdd, Nat.reduceSub, binA, IN, MX, buildA, fillA, faddrA, load_ptr, load_fp, rowOf_eq, packA, TK.isAgg, cellsOf, cellD, boxA, allocA, storeA, putCells, Nat.reduceLeDiff, extA, Tk.row, ty36, ty34, bslA, elTI_eq ty127, setRows, List.replicate_succ, List.replicate_zero, List.getD_cons_zero, List.getD_cons_succ, Nat.reduceLT, Nat.reduceMul, true_and, and_true]
  have hcat : ∀ (nm nb : Nat) (h : Nat → Option Blk), h nm = some (.rows 1 [[.fz 4 (instRows main)], [.fz 4 (instRows way)]]) →
      CallR Try.prog (.fn 79 [] []) [.sl 1 nm 0 2] h nb fun d U => d = .fz 4 (instRows (main ++ way)) ∧ U = [] := by
    intro nm nb h hb
    refine (s_concatI (instRows main) (instRows way) (instRows_plain _) (instRows_plain _) (by rw [instRows_length]; omega) (by rw [instRows_length]; omega) (instRows_rows _) (instRows_rows _)).callR [nm] nb rfl (by simp) rfl (by simp [renL, ren, sg]) ⟨⟨_, .rows 1 [[.fz 4 (instRows main)], [.fz 4 (instRows way)]], rfl, ?_, hb⟩, trivial⟩ ?_
    · simp [renB, renR, renL, plain_ren, plain, instRows_plain, ren, plainR_ren]
    · rintro d U ⟨rfl, rfl⟩
      exact ⟨_, [], plain_ren _ (by simp only [plain, plainR_append, instRows_plain, Bool.and_self]), rfl, by rw [instRows_append], rfl⟩
  rw [← hP] at hcat
  refine callW_of (hcat 96 _ _ rfl) ?_
  rintro d U ⟨rfl, rfl⟩
  simp only [EV, EX, hP, reduceIte, Nat.reduceEqDiff, Nat.reduceAdd, Nat.reduceSub, binA, IN, MX, buildA, fillA, faddrA, load_ptr, load_fp, rowOf_eq, packA, TK.isAgg, cellsOf, cellD, boxA, allocA, storeA, putCells, Nat.reduceLeDiff, extA, mkfnA]
  refine callW_clo (caps := []) hP (s_hasInsts (main ++ way) (by rw [List.length_append]; omega) _ [.fp [.int .i64 s]] (locksI s) rfl (fun x _ => s_ceil11 s x)) (by simp [plainL, plain, instRows_plain]) rfl ?_
  simp only [EV, EX, hP, reduceIte, Nat.reduceEqDiff, Nat.reduceAdd, Nat.reduceSub, binA, IN]
  exact hQ _ <| retQ_pure _ rfl rfl ⟨rfl, rfl⟩

theorem s_idxTasks (ns : List Tk) (hl : ns.length ≤ maxL) (f : Nat) (caps : List DV) (p : Tk → Bool) (hc : plainL caps = true) (hf : ∀ x ∈ ns, Pure Try.prog f ([.agg x.row] ++ caps) (.bool (p x))) :
    Pure Try.prog 48 [.fz 6 (tkRows ns), .fn f [] caps] (.int .i64 (idxOf p ns)) := by
  have hl2 : ns.length ≤ 281474976710656 := hl
  refine Spec.walk ok48 fun C Q hP hN hQ => ?_
  unfold c48
  simp only [EV, EX, hP, reduceIte, Nat.reduceEqDiff, Nat.reduceAdd, Nat.reduceSub, binA, IN, len_fz ty24, tkRows_length]
  refine LoopW.by (fun i => ⟨[(8, some (.int .i64 (i : Nat))), (7, some (.int .i64 ns.length)), (0, some (.fz 6 (tkRows ns))), (1, some (.fn f [] caps))], [], 0⟩) (fun i => i ≤ ns.length ∧ (ns.take i).any p = false) (fun i => ns.length - i) 0 ⟨Nat.zero_le _, rfl⟩ ?_ ?_
  · refine Sub.pl 0 hN (Nat.zero_le _) (Nat.zero_le _) ?_
    simp only [plT, EV, EX, hP, reduceIte, Nat.reduceEqDiff, Nat.reduceAdd, Nat.reduceSub, plain, tkRows_plain, and_true, plainL, hc, Bool.and_self, true_and]
    rfl
  · rintro i ⟨hi, hno⟩ N hN'
    simp only [EV, EX, hP, reduceIte, Nat.reduceEqDiff, Nat.reduceAdd, Nat.reduceSub, binA, IN]
    refine condS_d (fun h => ?_) (fun h => ?_)
    · have hi2 : i < ns.length := by omega
      have hb : (0 : Int) ≤ i ∧ (i : Int) < ns.length := by omega
      have h6 : 6 ≤ (ns[i].row).length := Nat.le_refl _
      have htk : (ns[i].row).take 6 = ns[i].row := rfl
      simp only [EV, EX, hP, reduceIte, Nat.reduceEqDiff, Nat.reduceAdd, Nat.reduceSub, binA, IN, MX, buildA, fillA, faddrA, load_ptr, load_fp, rowOf_eq, packA, TK.isAgg, cellsOf, cellD, boxA, allocA, storeA, putCells, Nat.reduceLeDiff, extA, iaddr_fz, elSize_eq ty24 ty36, tkRows_length, hb, tkRows_getD hi2, ty36, h6, htk]
      refine callW_clo hP (hf _ (List.getElem_mem hi2)) (by simp [plainL, plain, hc, Tk.row_plain]) rfl ?_
      simp only [EV, EX, hP, reduceIte, Nat.reduceEqDiff, Nat.reduceAdd, Nat.reduceSub, binA, IN]
      refine condS_i (fun h9 => ?_) (fun h9 => ?_)
      · simp only [EV, EX, hP, reduceIte, Nat.reduceEqDiff, Nat.reduceAdd, Nat.reduceSub, binA, IN]
        refine hQ _ <| retQ_pure _ rfl rfl ⟨?_, rfl⟩
        simp only [retV, idxOf_append_none hi2 hno h9]
      · simp only [EV, EX, hP, reduceIte, Nat.reduceEqDiff, Nat.reduceAdd, Nat.reduceSub, binA, IN]
        refine hN' _ (i + 1) ⟨hi2, ?_⟩ (by omega) (Sub.pl 0 hN (Nat.zero_le _) (Nat.zero_le _) ?_)
        · rw [List.take_succ_eq_append_getElem hi2, List.any_append, hno]; simpa using h9
        · simp only [plT, EV, EX, hP, reduceIte, Nat.reduceEqDiff, Nat.reduceAdd, Nat.reduceSub, plain, tkRows_plain, and_true, plainL, hc, Bool.and_self, true_and]
          rw [wrap_i64 (by omega) (by omega)]; rfl
    · have hi2 : i = ns.length := by omega
      subst hi2
      simp only [EV, EX, hP, reduceIte, Nat.reduceEqDiff, Nat.reduceAdd, Nat.reduceSub, binA, IN]
      refine hQ _ <| retQ_pure _ rfl rfl ⟨?_, rfl⟩
      rw [List.take_length] at hno
      simp only [retV, idxOf_none hno]

def ceilOf (l : List Tk) (s : Int) : Int := if idxOf (locksT s) l < 0 then 8 else idxOf (locksT s) l

theorem s_ceil (l : List Tk) (hl : l.length ≤ 1000) (hf : ∀ t ∈ l, t.fit) (s : Int) : Pure Try.prog 57 [.fz 6 (tkRows l), .int .i64 s] (.int .i64 (ceilOf l s)) := by
  have hM : maxL = 281474976710656 := rfl
  refine Spec.walk ok57 fun C Q hP hN hQ => ?_
  unfold c57
  simp only [EV, EX, hP, reduceIte, Nat.reduceEqDiff, Nat.reduceAdd, Nat.reduceSub, binA, IN, MX, buildA, fillA, faddrA, load_ptr, load_fp, rowOf_eq, packA, TK.isAgg, cellsOf, cellD, boxA, allocA, storeA, putCells, Nat.reduceLeDiff, extA, mkfnA]
  refine callW_look hP (s_idxTasks l (by omega) 77 [.fp [.int .i64 s]] (locksT s) rfl (fun t ht => s_ceil1 s t (hf t ht))) (by rintro d U ⟨rfl, _⟩; rfl) [0] (.cons _ _ _ _ (.same _ (by simp only [plain, tkRows_plain])) (.cons _ _ _ _ (.fn _ _ _ _ _ rfl rfl (by simp) ?_) .nil)) ?_
  · intro j x y hx hy
    match j with
    | 0 => cases hx; cases hy; exact Tl.cell (by simp) rfl rfl
    | j + 1 => simp at hx
  · rintro d U ⟨rfl, _⟩
    simp only [EV, EX, hP, reduceIte, Nat.reduceEqDiff, Nat.reduceAdd, Nat.reduceSub, binA, IN]
    unfold ceilOf at hQ
    refine condS_d (fun h => ?_) (fun h => ?_)
    · rw [if_pos h] at hQ
      simp only [EV, EX, hP, reduceIte, Nat.reduceEqDiff, Nat.reduceAdd, Nat.reduceSub, binA, IN]
      exact hQ _ <| retQ_pure _ rfl rfl ⟨rfl, rfl⟩
    · rw [if_neg h] at hQ
      simp only [EV, EX, hP, reduceIte, Nat.reduceEqDiff, Nat.reduceAdd, Nat.reduceSub, binA, IN]
      exact hQ _ <| retQ_pure _ rfl rfl ⟨rfl, rfl⟩
end Go.Fv
/- CONTRACTS: block.By. -/
namespace Go.Fv
open Go.Proofs

def bySpans (l : List Tk) (i : Int) (sp : List (Int × Int)) (m : Int) : Int := sp.foldl (fun m s => if ceilOf l s.1 ≤ i then max m s.2 else m) m
def byUpto (l : List Tk) (i : Int) (k : Nat) : Int := (l.take k).zipIdx.foldl (fun m x => if (x.2 : Int) = i then m else bySpans l i (costsT x.1).2.2 m) 0
def byOf (l : List Tk) (i : Int) : Int := byUpto l i l.length
theorem byUpto_succ {l : List Tk} {i : Int} {k : Nat} (h : k < l.length) : byUpto l i (k + 1) = if (k : Int) = i then byUpto l i k else bySpans l i (costsT l[k]).2.2 (byUpto l i k) := by
  unfold byUpto
  rw [List.take_succ_eq_append_getElem h, List.zipIdx_append, List.foldl_append]
  simp only [List.length_take, Nat.min_eq_left (Nat.le_of_lt h), Nat.zero_add, List.zipIdx_cons, List.zipIdx_nil, List.foldl_cons, List.foldl_nil]
theorem bySpans_succ {l : List Tk} {i : Int} {sp : List (Int × Int)} {m : Int} {j : Nat} (h : j < sp.length) : bySpans l i (sp.take (j + 1)) m = if ceilOf l sp[j].1 ≤ i then max (bySpans l i (sp.take j) m) sp[j].2 else bySpans l i (sp.take j) m := by
  unfold bySpans
  rw [List.take_succ_eq_append_getElem h, List.foldl_append]; rfl

/-- A map of ceilings. -/
def ceilD (es : List (Int × Int)) : List (DV × DV) := es.map fun x => (.agg [.int .i64 x.1], .int .i64 x.2)
theorem ceilD_plain (es : List (Int × Int)) : ∀ x ∈ ceilD es, plain x.1 = true ∧ plain x.2 = true := by
  intro x hx
  obtain ⟨y, _, rfl⟩ := List.mem_map.1 hx
  exact ⟨rfl, rfl⟩
theorem ty92_flat : flatT (tiOf Try.prog 92) = some [false] := by rw [ty92]; rfl
theorem dvEq_92 (a b : Int) : dvEq (tiOf Try.prog 92) (.agg [.int .i64 a]) (.agg [.int .i64 b]) = some (decide (a = b)) := by
  simp only [dvEq, ty92_flat, kindsOk, kindD, Bool.not_false, Bool.and_self, if_true, lsEq, scEq, if_true, Bool.and_true]
theorem findK_92 (s : Int) : ∀ (es : List (Int × Int)), findK (tiOf Try.prog 92) (.agg [.int .i64 s]) (ceilD es) = some (((es.find? fun x => decide (s = x.1)).map (·.2)).map fun v => .int .i64 v)
  | [] => rfl
  | x :: es => by
    simp only [ceilD, List.map_cons, findK, dvEq_92]
    by_cases e : s = x.1
    · simp [e]
    · simp only [e, decide_false, cond_false, List.find?_cons]
      exact findK_92 s es
theorem updK_92 (s v : Int) : ∀ (es : List (Int × Int)), (es.find? fun x => decide (s = x.1)) = none → updK (tiOf Try.prog 92) (.agg [.int .i64 s]) (.int .i64 v) (ceilD es) = some (ceilD (es ++ [(s, v)]))
  | [], _ => rfl
  | x :: es, h => by
    have hne : s ≠ x.1 := by
      rintro rfl
      simp at h
    have h2 : (es.find? fun x => decide (s = x.1)) = none := by simpa [List.find?_cons, hne] using h
    have ih := updK_92 s v es h2
    simp only [ceilD, List.map_cons, updK, List.cons_append, dvEq_92]
    simp only [hne, decide_false, cond_false]
    unfold ceilD at ih
    rw [ih]; rfl

set_option maxRecDepth 100000 in
theorem s_by (l : List Tk) (hl : l.length ≤ 1000) (hf : ∀ t ∈ l, t.fit) (i : Int) : Pure Try.prog 37 [.fz 6 (tkRows l), .int .i64 i] (.int .i64 (byOf l i)) := by
  refine Spec.walk ok37 fun C Q hP hN hQ => ?_
  unfold c37
  simp only [EV, EX, hP, reduceIte, Nat.reduceEqDiff, Nat.reduceAdd, Nat.reduceSub, binA, IN, MX, buildA, fillA, faddrA, load_ptr, load_fp, rowOf_eq, packA, TK.isAgg, cellsOf, cellD, boxA, allocA, storeA, putCells, Nat.reduceLeDiff, extA, len_fz ty24, tkRows_length]
  have hq : ∀ q, ∀ n, C.N0 n → n < q := fun q n hn => absurd (hN n hn) (by omega)
  refine LoopW.by (fun (x : Nat × List (Int × Int)) => ⟨[(18, some (.int .i64 (x.1 : Nat))), (17, some (.int .i64 l.length)), (16, some (.fz 6 (tkRows l))), (4, some (.int .i64 (byUpto l i x.1))), (5, some (.mp 0)), (0, some (.fz 6 (tkRows l))), (1, some (.int .i64 i))], [(0, some (.map (ceilD x.2)))], 16⟩)
    (fun x => x.1 ≤ l.length ∧ ∀ y ∈ x.2, y.2 = ceilOf l y.1) (fun x => l.length - x.1) (0, []) ⟨Nat.zero_le _, by simp⟩ ?_ ?_
  · exact Sub.tell ⟨0, [(16, 0)], [], []⟩ (hq 0) rfl ⟨⟨_, rfl, .same _ rfl⟩, ⟨_, rfl, .same _ rfl⟩, ⟨_, rfl, .same _ (by simp only [plain, tkRows_plain])⟩, ⟨_, rfl, .same _ rfl⟩, ⟨_, rfl, .mp 16 0 rfl⟩, ⟨_, rfl, .same _ (by simp only [plain, tkRows_plain])⟩, ⟨_, rfl, .same _ rfl⟩, trivial⟩ ⟨.inl ⟨16, _, rfl, by simp, rfl, TlB.plain_map (by simp)⟩, trivial⟩
  · rintro ⟨k, es⟩ ⟨hk, hes⟩ N hN'
    simp only at hk hes hN'
    simp only [EV, EX, hP, reduceIte, Nat.reduceEqDiff, Nat.reduceAdd, Nat.reduceSub, binA, IN]
    refine condS_d (fun h => ?_) (fun h => ?_)
    · have hk2 : k < l.length := by omega
      have hb : (0 : Int) ≤ k ∧ (k : Int) < l.length := by omega
      have h6 : 6 ≤ (l[k].row).length := Nat.le_refl _
      have htk : (l[k].row).take 6 = l[k].row := rfl
      have hput : ∀ a b c d e f : DV, putCells [a, b, c, d, e, f] 0 l[k].row = l[k].row := fun _ _ _ _ _ _ => rfl
      have hlen6 : (l[k].row).length = 6 := rfl
      have hcell : l[k].row.all cellD = true := rfl
      have w1 : IntKind.i64.wrap ((k : Int) + 1) = k + 1 := wrap_i64 (by omega) (by omega)
      have hnx : ∀ (S : St) (es' : List (Int × Int)), (∀ y ∈ es', y.2 = ceilOf l y.1) → S.get 18 = some (.int .i64 ((k : Int) + 1)) → S.get 17 = some (.int .i64 l.length) → S.get 16 = some (.fz 6 (tkRows l)) → S.get 4 = some (.int .i64 (byUpto l i (k + 1))) → S.get 5 = some (.mp 0) → S.get 0 = some (.fz 6 (tkRows l)) → S.get 1 = some (.int .i64 i) →
          S.blk 0 = some (.map (ceilD es')) → (Nm.mk 1 [] [] []).ok S.nx 16 = true → N S := by
        intro S es' he g1 g2 g3 g4 g5 g6 g7 b0 hok
        exact hN' _ (k + 1, es') ⟨hk2, he⟩ (by simp; omega) (Sub.tell ⟨1, [], [], []⟩ (hq 1) hok ⟨⟨_, g1, by rw [show (((k + 1 : Nat)) : Int) = k + 1 from by omega]; exact .same _ rfl⟩, ⟨_, g2, .same _ rfl⟩, ⟨_, g3, .same _ (by simp only [plain, tkRows_plain])⟩, ⟨_, g4, .same _ rfl⟩, ⟨_, g5, .mp 0 0 rfl⟩, ⟨_, g6, .same _ (by simp only [plain, tkRows_plain])⟩, ⟨_, g7, .same _ rfl⟩, trivial⟩
          ⟨.inl ⟨0, _, rfl, by simp, b0, TlB.plain_map (ceilD_plain _)⟩, trivial⟩)
      simp only [EV, EX, hP, reduceIte, Nat.reduceEqDiff, Nat.reduceAdd, Nat.reduceSub, binA, IN, MX, buildA, fillA, faddrA, load_ptr, load_fp, rowOf_eq, packA, TK.isAgg, cellsOf, cellD, boxA, allocA, storeA, putCells, Nat.reduceLeDiff, extA, iaddr_fz, elSize_eq ty24 ty36, tkRows_length, hb, tkRows_getD hk2, ty36, h6, htk, hput, hlen6, hcell, cells_agg]
      refine condS_d (fun h2 => ?_) (fun h2 => ?_)
      · simp only [EV, EX, hP, reduceIte, Nat.reduceEqDiff, Nat.reduceAdd, Nat.reduceSub, binA, IN, w1]
        exact hnx _ es hes rfl rfl rfl (by rw [byUpto_succ hk2, if_pos h2]; rfl) rfl rfl rfl rfl rfl
      · simp only [EV, EX, hP, reduceIte, Nat.reduceEqDiff, Nat.reduceAdd, Nat.reduceSub, binA, IN, MX, buildA, fillA, faddrA, load_ptr, load_fp, rowOf_eq, packA, TK.isAgg, cellsOf, cellD, boxA, allocA, storeA, putCells, Nat.reduceLeDiff, extA, ty36, h6, htk]
        refine callW_pure hP (s_costs l[k] (hf _ (List.getElem_mem hk2))) (by simp [plainL, plain, Tk.row_plain]) (costsD_plain _) ?_
        have hsl := costsT_spans l[k]
        have hnx2 := byUpto_succ (l := l) (i := i) hk2
        rw [if_neg h2] at hnx2
        generalize (costsT l[k]) = cs at *
        simp only [EV, EX, hP, reduceIte, Nat.reduceEqDiff, Nat.reduceAdd, Nat.reduceSub, binA, IN, MX, buildA, fillA, faddrA, load_ptr, load_fp, rowOf_eq, packA, TK.isAgg, cellsOf, cellD, boxA, allocA, storeA, putCells, Nat.reduceLeDiff, extA, costsD, extA, len_fz ty44, spanRows_length]
        refine LoopW.by (fun (x : Nat × List (Int × Int)) => ⟨[(34, some (.int .i64 (x.1 : Nat))), (33, some (.int .i64 cs.2.2.length)), (32, some (.fz 2 (spanRows cs.2.2))), (18, some (.int .i64 k)), (17, some (.int .i64 l.length)), (16, some (.fz 6 (tkRows l))), (4, some (.int .i64 (bySpans l i (cs.2.2.take x.1) (byUpto l i k)))), (5, some (.mp 0)), (0, some (.fz 6 (tkRows l))), (1, some (.int .i64 i))], [(0, some (.map (ceilD x.2)))], 16⟩)
          (fun x => x.1 ≤ cs.2.2.length ∧ ∀ y ∈ x.2, y.2 = ceilOf l y.1) (fun x => cs.2.2.length - x.1) (0, es) ⟨Nat.zero_le _, hes⟩ ?_ ?_
        · exact Sub.tell ⟨1, [], [], []⟩ (hq 1) rfl ⟨⟨_, rfl, .same _ rfl⟩, ⟨_, rfl, .same _ rfl⟩, ⟨_, rfl, .same _ (by simp only [plain, spanRows_plain])⟩, ⟨_, rfl, .same _ rfl⟩, ⟨_, rfl, .same _ rfl⟩, ⟨_, rfl, .same _ (by simp only [plain, tkRows_plain])⟩, ⟨_, rfl, .same _ rfl⟩, ⟨_, rfl, .mp 0 0 rfl⟩, ⟨_, rfl, .same _ (by simp only [plain, tkRows_plain])⟩, ⟨_, rfl, .same _ rfl⟩, trivial⟩
            ⟨.inl ⟨0, _, rfl, by simp, rfl, TlB.plain_map (ceilD_plain _)⟩, trivial⟩
        · rintro ⟨j, es2⟩ ⟨hj, hes2⟩ N2 hN2
          simp only at hj hes2 hN2
          simp only [EV, EX, hP, reduceIte, Nat.reduceEqDiff, Nat.reduceAdd, Nat.reduceSub, binA, IN]
          refine condS_d (fun h3 => ?_) (fun h3 => ?_)
          · have hj2 : j < cs.2.2.length := by omega
            have hbj : (0 : Int) ≤ j ∧ (j : Int) < cs.2.2.length := by omega
            have w2 : IntKind.i64.wrap ((j : Int) + 1) = j + 1 := wrap_i64 (by omega) (by omega)
            have fk := findK_92 cs.2.2[j].1 es2
            have dk := dvEq_92 cs.2.2[j].1 cs.2.2[j].1
            rw [ty92] at fk dk
            have hstep := bySpans_succ (l := l) (i := i) (m := byUpto l i k) hj2
            have hnxj : ∀ (S : St) (es' : List (Int × Int)), (∀ y ∈ es', y.2 = ceilOf l y.1) → S.get 34 = some (.int .i64 ((j : Int) + 1)) → S.get 33 = some (.int .i64 cs.2.2.length) → S.get 32 = some (.fz 2 (spanRows cs.2.2)) → S.get 18 = some (.int .i64 k) → S.get 17 = some (.int .i64 l.length) → S.get 16 = some (.fz 6 (tkRows l)) →
                S.get 4 = some (.int .i64 (bySpans l i (cs.2.2.take (j + 1)) (byUpto l i k))) → S.get 5 = some (.mp 0) → S.get 0 = some (.fz 6 (tkRows l)) → S.get 1 = some (.int .i64 i) → S.blk 0 = some (.map (ceilD es')) → (Nm.mk 1 [] [] []).ok S.nx 16 = true → N2 S := by
              intro S es' he g1 g2 g3 g4 g5 g6 g7 g8 g9 g10 b0 hok
              exact hN2 _ (j + 1, es') ⟨hj2, he⟩ (by simp; omega) (Sub.tell ⟨1, [], [], []⟩ (hq 1) hok ⟨⟨_, g1, by rw [show (((j + 1 : Nat)) : Int) = j + 1 from by omega]; exact .same _ rfl⟩, ⟨_, g2, .same _ rfl⟩, ⟨_, g3, .same _ (by simp only [plain, spanRows_plain])⟩, ⟨_, g4, .same _ rfl⟩, ⟨_, g5, .same _ rfl⟩, ⟨_, g6, .same _ (by simp only [plain, tkRows_plain])⟩, ⟨_, g7, .same _ rfl⟩, ⟨_, g8, .mp 0 0 rfl⟩, ⟨_, g9, .same _ (by simp only [plain, tkRows_plain])⟩, ⟨_, g10, .same _ rfl⟩, trivial⟩
                ⟨.inl ⟨0, _, rfl, by simp, b0, TlB.plain_map (ceilD_plain _)⟩, trivial⟩)
            simp only [EV, EX, hP, reduceIte, Nat.reduceEqDiff, Nat.reduceAdd, Nat.reduceSub, binA, IN, MX, buildA, fillA, faddrA, load_ptr, load_fp, rowOf_eq, packA, TK.isAgg, cellsOf, cellD, boxA, allocA, storeA, putCells, Nat.reduceLeDiff, extA, iaddr_fz, elSize_eq ty44 ty73, spanRows_length, hbj, spanRows_getD hj2, ty73, ty3, ty92, cells_agg, cells_int, lkpA, ty90, Nat.zero_mul, fk, dk, Option.isSome_some, if_true]
            have hdone : ∀ (S : St) (es' : List (Int × Int)), True := fun _ _ => trivial
            cases hfind : es2.find? fun x => decide (cs.2.2[j].1 = x.1) with
            | some y =>
              have hy := hes2 y (List.mem_of_find?_eq_some hfind)
              have hys : cs.2.2[j].1 = y.1 := by simpa using List.find?_some hfind
              rw [← hys] at hy
              rw [hfind] at fk
              simp only [Option.map_some] at fk
              simp only [hfind, Option.map_some, found, Option.isSome_some, cond_true, cond_false]
              simp only [EV, EX, hP, reduceIte, Nat.reduceEqDiff, Nat.reduceAdd, Nat.reduceSub, binA, IN, MX, buildA, fillA, faddrA, load_ptr, load_fp, rowOf_eq, packA, TK.isAgg, cellsOf, cellD, boxA, allocA, storeA, putCells, Nat.reduceLeDiff, extA, ty73, ty3, ty92, cells_int, lkpA, ty90, Nat.zero_mul, fk, dk, Option.isSome_some, if_true, unA, Bool.not_true, found, cond_false, hy]
              refine condS_d (fun h5 => ?_) (fun h5 => ?_)
              · simp only [EV, EX, hP, reduceIte, Nat.reduceEqDiff, Nat.reduceAdd, Nat.reduceSub, binA, IN, MX, buildA, fillA, faddrA, load_ptr, load_fp, rowOf_eq, packA, TK.isAgg, cellsOf, cellD, boxA, allocA, storeA, putCells, Nat.reduceLeDiff, extA, ty73, ty3, maxA, w2]
                refine hnxj _ es2 hes2 rfl rfl rfl rfl rfl rfl ?_ rfl rfl rfl rfl rfl
                rw [hstep, if_pos h5]
                simp only [get_mk, lkO_cons, Nat.reduceEqDiff, if_false, if_true]
                congr 2
                omega
              · simp only [EV, EX, hP, reduceIte, Nat.reduceEqDiff, Nat.reduceAdd, Nat.reduceSub, binA, IN, w2]
                exact hnxj _ es2 hes2 rfl rfl rfl rfl rfl rfl (by rw [hstep, if_neg h5]; rfl) rfl rfl rfl rfl rfl
            | none =>
              have uk := updK_92 cs.2.2[j].1 (ceilOf l cs.2.2[j].1) es2 hfind
              have fk2 := findK_92 cs.2.2[j].1 (es2 ++ [(cs.2.2[j].1, ceilOf l cs.2.2[j].1)])
              have hf2 : (es2 ++ [(cs.2.2[j].1, ceilOf l cs.2.2[j].1)]).find? (fun x => decide (cs.2.2[j].1 = x.1)) = some (cs.2.2[j].1, ceilOf l cs.2.2[j].1) := by
                rw [List.find?_append, hfind]; simp
              rw [hf2] at fk2
              rw [ty92] at uk fk2
              simp only [Option.map_some] at fk2
              have hes3 : ∀ y ∈ es2 ++ [(cs.2.2[j].1, ceilOf l cs.2.2[j].1)], y.2 = ceilOf l y.1 := by
                intro y hy
                rcases List.mem_append.1 hy with hy | hy
                · exact hes2 y hy
                · simp only [List.mem_singleton] at hy; subst hy; rfl
              simp only [hfind, Option.map_none, found, Option.isSome_none, cond_true]
              simp only [EV, EX, hP, reduceIte, Nat.reduceEqDiff, Nat.reduceAdd, Nat.reduceSub, binA, IN, DR, DX, Nat.reduceMul, keysU, MX, buildA, fillA, faddrA, load_ptr, load_fp, rowOf_eq, packA, TK.isAgg, cellsOf, cellD, boxA, allocA, storeA, putCells, Nat.reduceLeDiff, extA, ty73, ty3, ty92, cells_int, ty90, Nat.zero_mul, unA, Bool.not_false]
              refine callD_pure hP (s_ceil l hl hf cs.2.2[j].1) (by simp [plainL, plain, tkRows_plain]) rfl ?_
              simp only [EV, EX, hP, reduceIte, Nat.reduceEqDiff, Nat.reduceAdd, Nat.reduceSub, binA, IN, DR, DX, Nat.reduceMul, keysU, MX, buildA, fillA, faddrA, load_ptr, load_fp, rowOf_eq, packA, TK.isAgg, cellsOf, cellD, boxA, allocA, storeA, putCells, Nat.reduceLeDiff, extA, ty73, ty3, ty92, cells_int, ty90, Nat.zero_mul, mupdA, dk, uk, Option.isSome_some, if_true, drF_eq]
              refine ⟨by kernel_rfl, ?_⟩
              simp only [EV, EX, hP, reduceIte, Nat.reduceEqDiff, Nat.reduceAdd, Nat.reduceSub, binA, IN, MX, buildA, fillA, faddrA, load_ptr, load_fp, rowOf_eq, packA, TK.isAgg, cellsOf, cellD, boxA, allocA, storeA, putCells, Nat.reduceLeDiff, extA, ty73, ty3, ty92, cells_int, lkpA, ty90, Nat.zero_mul, fk2, dk, Option.isSome_some, if_true, found, cond_false]
              refine condS_d (fun h5 => ?_) (fun h5 => ?_)
              · simp only [EV, EX, hP, reduceIte, Nat.reduceEqDiff, Nat.reduceAdd, Nat.reduceSub, binA, IN, MX, buildA, fillA, faddrA, load_ptr, load_fp, rowOf_eq, packA, TK.isAgg, cellsOf, cellD, boxA, allocA, storeA, putCells, Nat.reduceLeDiff, extA, ty73, ty3, maxA, w2]
                refine hnxj _ _ hes3 rfl rfl rfl rfl rfl rfl ?_ rfl rfl rfl rfl rfl
                rw [hstep, if_pos h5]
                simp only [get_mk, lkO_cons, Nat.reduceEqDiff, if_false, if_true]
                congr 2
                omega
              · simp only [EV, EX, hP, reduceIte, Nat.reduceEqDiff, Nat.reduceAdd, Nat.reduceSub, binA, IN, w2]
                exact hnxj _ _ hes3 rfl rfl rfl rfl rfl rfl (by rw [hstep, if_neg h5]; rfl) rfl rfl rfl rfl rfl
          · have hj2 : j = cs.2.2.length := by omega
            subst hj2
            simp only [EV, EX, hP, reduceIte, Nat.reduceEqDiff, Nat.reduceAdd, Nat.reduceSub, binA, IN, w1]
            exact hnx _ es2 hes2 rfl rfl rfl (by rw [hnx2, List.take_length]; rfl) rfl rfl rfl rfl rfl
    · have hk2 : k = l.length := by omega
      subst hk2
      simp only [EV, EX, hP, reduceIte, Nat.reduceEqDiff, Nat.reduceAdd, Nat.reduceSub, binA, IN]
      exact hQ _ <| retQ_pure [.int .i64 (byOf l i)] rfl rfl ⟨rfl, rfl⟩
end Go.Fv
/- ABSTRACT VALUES AND STATES (33): contracts that turn own blocks that were passed. -/
namespace Go.Fv

/-- What a return comes to: the blocks behind it told in one row. -/
def retU (C : Ctx) (rv : List ResultVar) (p : Nat) (H : List (Nat × Option Blk)) (D : DV → List (Nat × Option Blk) → Prop) (S : St) : Prop :=
  ∃ (M : Nm) (ds1 ds : List DV) (U H2 : List (Nat × Option Blk)), resD (tiOf C.P) S rv = some ds1 ∧ p ≤ M.q ∧ M.ok S.nx (p + 16) = true ∧ TlL M S.blk ds1 ds ∧ tlH M S H2 ∧ lkO H2 = lkO (U ++ H) ∧ D (retV ds) U

/-- A contract from a walk that turns what it was passed. -/
theorem Spec.introU {P : Program} {f : FuncId} {sc : SC} {nt : Nat} {rv : List ResultVar} {az : List DV} {p : Nat} {H : List (Nat × Option Blk)} {D : DV → List (Nat × Option Blk) → Prop}
    (hf : FnOk P f sc nt az.length rv)
    (hw : ∀ w F ρ, W (ctx P w F ρ p H nt) (retU (ctx P w F ρ p H nt) rv p H D) sc (retU (ctx P w F ρ p H nt) rv p H D) (fun _ _ => False) ⟨slots az 0, H, p⟩) : Spec P f az p H D := by
  obtain ⟨⟨fn, c, h1, h2, h3, h4, h5, h6, h7, h8⟩, hP⟩ := hf
  refine ⟨by simp [enterable, h1, h2, h3], fun w F ρ HH vs hl ha => ?_⟩
  refine calls_of_wp h1 h2 ?_
  have hret : ∀ (S : St) (a : Act) (w' : World), retU (ctx P w F ρ p H nt) rv p H D S → Rel (ctx P w F ρ p H nt) S w' a.tmps → a.defers = [] →
      a.defers = [] ∧ ∃ v, (results fn a.tmps).run P w' = .ok v w' ∧ ∃ v', (Ending.returned v) = .returned v' ∧ ∃ (d : DV) (U : List (Nat × Option Blk)) (F' : Nat → Prop) (ρ' : Nat → Place), D d U ∧
        Tr w F ρ (· < p) (lkO H) w' F' ρ' (· < p + 16) (updB (lkO H) U) ∧ RepV w' F' ρ' (· < p + 16) d v' := by
    rintro S a w' ⟨M, ds1, ds, U, H2, hres, hq, hok, htl, htH, heq, hD⟩ hr hd
    obtain ⟨hsz, F1, ρ1, T1, ht⟩ := hr
    obtain ⟨us, g1, g2, g3⟩ := run_results (P := P) (tm := a.tmps) T1.H ht rv ds1 hres
    obtain ⟨F', ρ', T, hrep⟩ := tell_core M (fun n hn => Nat.lt_of_lt_of_le hn hq) hok htH T1
    obtain ⟨hll, hle⟩ := htl.at
    refine ⟨hd, (if h : us.toArray.size = 1 then us.toArray[0] else .tuple us.toArray), ?_, _, rfl, retV ds, U, F', ρ', hD, ?_, ?_⟩
    · rw [results_eq, Array.mapM_eq_mapM_toList, h5]
      simp only [Sem.run_bind, Sem.run_map, g1, Result.andThen_ok, Sem.run_pure]
    · rw [heq, lkO_append] at T
      exact T
    · refine retV_rep (by simp; omega) (fun i d v hd hv => ?_)
      obtain ⟨x, hx⟩ := other hll hd
      exact hrep x d v (hle i x d hx hd) (g3 i x v hx (by simpa using hv))
  refine W_sound (C := ctx P w F ρ p H nt) (df := []) hP sc c _ _ _ _ w _ h6 h7 (hw w F ρ) ?_ rfl ?_ ?_ ?_
  · refine ⟨?_, F, ρ, Tr.refl HH, fun t d hd => ?_⟩
    · show (vs ++ Array.replicate (fn.ntmps - vs.size) undef).size = nt
      simp only [Array.size_append, Array.size_replicate]
      omega
    · have hd' : lkO (slots az 0) t = some d := hd
      rw [slots_at] at hd'
      simp only [Nat.zero_le, if_true, Nat.sub_zero] at hd'
      have hlt : t < vs.size := by rw [← hl]; exact (List.getElem?_eq_some_iff.1 hd').1
      refine ⟨vs[t], ?_, ha t d _ hd' (by simp [hlt])⟩
      rw [Array.getElem?_append_left hlt]
      simp [hlt]
  · intro S a w' h9 h10 h11; exact hret S a w' h9 h10 h11
  · intro j S a w' h9; exact h9.elim
  · intro S a w' h9 h10 h11; exact hret S a w' h9 h10 h11


theorem Spec.walkU {P : Program} {f : FuncId} {sc : SC} {nt : Nat} {rv : List ResultVar} {az : List DV} {p : Nat} {H : List (Nat × Option Blk)} {D : DV → List (Nat × Option Blk) → Prop}
    (hf : FnOk P f sc nt az.length rv)
    (hw : ∀ (C : Ctx) (Q : St → Prop), C.P = P → (∀ n, C.N0 n → n < p) → (∀ S, retU C rv p H D S → Q S) → W C Q sc Q (fun _ _ => False) ⟨slots az 0, H, p⟩) : Spec P f az p H D :=
  Spec.introU hf fun _ _ _ => hw _ _ rfl (fun _ hn => hn) fun _ h => h

theorem lkO_over {α : Type} {n : Nat} {x y : Option α} {r : List (Nat × Option α)} : lkO ((n, x) :: r) = lkO ((n, x) :: (n, y) :: r) := by
  funext m
  rw [lkO_cons, lkO_cons, lkO_cons]
  by_cases h : n = m
  · rw [if_pos h, if_pos h]
  · rw [if_neg h, if_neg h, if_neg h]
end Go.Fv
/- CONTRACTS: bound, but for Resp. -/
namespace Go.Fv
open Go.Proofs

def addS (s : Int × Bool) (n v : Int) : Int × Bool := ((satAdd s.1 (satMul n v).1).1, s.2 || !(satMul n v).2 || !(satAdd s.1 (satMul n v).1).2)

set_option maxRecDepth 100000 in
theorem s_add (s : Int × Bool) (n v : Int) (hs : i64r s.1) (hn : i64r n) (hv : i64r v) : Spec Try.prog 36 [.ptr 0 0 0, .int .i64 n, .int .i64 v] 1 [(0, some (.rows 2 [[.int .i64 s.1, .bool s.2]]))]
    fun d U => d = .tup [] ∧ U = [(0, some (.rows 2 [[.int .i64 (addS s n v).1, .bool (addS s n v).2]]))] := by
  obtain ⟨a, b⟩ := s
  unfold addS
  simp only at hs ⊢
  have hm : i64r (satMul n v).1 := satMul_i64
  have h1 := s_Mul n v hn hv
  have h2 := s_Add a (satMul n v).1 hs hm
  refine Spec.walkU ok36 fun C Q hP hN hQ => ?_
  unfold c36
  generalize satMul n v = p at *
  generalize satAdd a p.1 = t at *
  obtain ⟨p1, p2⟩ := p
  obtain ⟨t1, t2⟩ := t
  have fin : ∀ S : St, S.blk 0 = some (.rows 2 [[.int .i64 t1, .bool (b || !p2 || !t2)]]) → (Nm.mk 1 [] [] []).ok S.nx 17 = true → Q S := by
    intro S hb hok
    exact hQ S ⟨⟨1, [], [], []⟩, [], [], [(0, some (.rows 2 [[.int .i64 t1, .bool (b || !p2 || !t2)]]))], [(0, some (.rows 2 [[.int .i64 t1, .bool (b || !p2 || !t2)]]))], rfl, Nat.le_refl _, hok, .nil, ⟨.inl ⟨0, _, rfl, by simp, hb, lowB_same rfl⟩, trivial⟩, lkO_over, rfl, rfl⟩
  simp only [EV, EX, hP, reduceIte, Nat.reduceEqDiff, Nat.reduceAdd, Nat.reduceSub, binA, IN, MX, buildA, fillA, faddrA, load_ptr, load_fp, rowOf_eq, packA, TK.isAgg, cellsOf, cellD, boxA, allocA, storeA, putCells, Nat.reduceLeDiff, extA]
  refine callW_pure hP h1 rfl rfl ?_
  simp only [EV, EX, hP, reduceIte, Nat.reduceEqDiff, Nat.reduceAdd, Nat.reduceSub, binA, IN, MX, buildA, fillA, faddrA, load_ptr, load_fp, rowOf_eq, packA, TK.isAgg, cellsOf, cellD, boxA, allocA, storeA, putCells, Nat.reduceLeDiff, extA, nilckA, ty68, ty2]
  refine callW_pure hP h2 rfl rfl ?_
  simp only [EV, EX, hP, reduceIte, Nat.reduceEqDiff, Nat.reduceAdd, Nat.reduceSub, binA, IN, MX, buildA, fillA, faddrA, load_ptr, load_fp, rowOf_eq, packA, TK.isAgg, cellsOf, cellD, boxA, allocA, storeA, putCells, Nat.reduceLeDiff, extA, nilckA, ty68, ty2, ty4]
  cases b <;> cases p2 <;> cases t2 <;> simp only [EV, EX, hP, reduceIte, Nat.reduceEqDiff, Nat.reduceAdd, Nat.reduceSub, binA, IN, MX, buildA, fillA, faddrA, load_ptr, load_fp, rowOf_eq, packA, TK.isAgg, cellsOf, cellD, boxA, allocA, storeA, putCells, Nat.reduceLeDiff, extA, nilckA, ty68, ty2, ty4, pickA, unA, Bool.not_true, Bool.not_false, cells_int, cellsOf, List.length_cons, List.length_nil] <;> exact fin _ rfl rfl

theorem s_often (r v : Int) (hr : i64r r) (hv : i64r v) : Pure Try.prog 38 [.int .i64 r, .int .i64 v] (.int .i64 (satUp r v).1) := by
  refine Spec.walk ok38 fun C Q hP hN hQ => ?_
  unfold c38
  simp only [EV, EX, hP, reduceIte, Nat.reduceEqDiff, Nat.reduceAdd, Nat.reduceSub, binA, IN]
  refine callW_pure hP (s_Up r v hr hv) rfl rfl ?_
  simp only [EV, EX, hP, reduceIte, Nat.reduceEqDiff, Nat.reduceAdd, Nat.reduceSub, binA, IN, MX, buildA, fillA, faddrA, load_ptr, load_fp, rowOf_eq, packA, TK.isAgg, cellsOf, cellD, boxA, allocA, storeA, putCells, Nat.reduceLeDiff, extA]
  exact hQ _ <| retQ_pure _ rfl rfl ⟨rfl, rfl⟩

def tkAt (l : List Tk) (i : Nat) : Tk := l.getD i ⟨0, 0, 0, [], [], []⟩
theorem tkAt_get {l : List Tk} {i : Nat} (h : i < l.length) : tkAt l i = l[i] := by simp [tkAt, List.getD_eq_getElem?_getD, h]
/-- A row, at place i. -/
def rowAt (l : List Tk) (i : Nat) : Bool := decide (mayT (tkAt l i) = 0) && (decide (i = 0) || decide ((tkAt l (i - 1)).rank < (tkAt l i).rank))
def rowP (l : List Tk) : Bool := (List.range l.length).all (rowAt l)

set_option maxRecDepth 100000 in
theorem s_row (l : List Tk) (hl : l.length ≤ 1000) (hf : ∀ t ∈ l, t.fit) : Pure Try.prog 34 [.fz 6 (tkRows l)] (.bool (rowP l)) := by
  refine Spec.walk ok34 fun C Q hP hN hQ => ?_
  unfold c34
  simp only [EV, EX, hP, reduceIte, Nat.reduceEqDiff, Nat.reduceAdd, Nat.reduceSub, binA, IN, MX, buildA, fillA, faddrA, load_ptr, load_fp, rowOf_eq, packA, TK.isAgg, cellsOf, cellD, boxA, allocA, storeA, putCells, Nat.reduceLeDiff, extA, len_fz ty24, tkRows_length]
  refine LoopW.by (fun k => ⟨[(7, some (.int .i64 (k : Nat))), (6, some (.int .i64 l.length)), (5, some (.fz 6 (tkRows l))), (0, some (.fz 6 (tkRows l)))], [], 0⟩) (fun k => k ≤ l.length ∧ (List.range k).all (rowAt l) = true) (fun k => l.length - k) 0 ⟨Nat.zero_le _, rfl⟩ ?_ ?_
  · refine Sub.pl 0 hN (Nat.zero_le _) (Nat.zero_le _) ?_
    simp only [plT, EV, EX, hP, reduceIte, Nat.reduceEqDiff, Nat.reduceAdd, Nat.reduceSub, plain, tkRows_plain, and_true, true_and]
    rfl
  · rintro k ⟨hk, hall⟩ N hN'
    simp only [EV, EX, hP, reduceIte, Nat.reduceEqDiff, Nat.reduceAdd, Nat.reduceSub, binA, IN]
    refine condS_d (fun h => ?_) (fun h => ?_)
    · have hk2 : k < l.length := by omega
      have hb : (0 : Int) ≤ k ∧ (k : Int) < l.length := by omega
      have h6 : 6 ≤ (l[k].row).length := Nat.le_refl _
      have htk : (l[k].row).take 6 = l[k].row := rfl
      have hput : ∀ a b c d e f : DV, putCells [a, b, c, d, e, f] 0 l[k].row = l[k].row := fun _ _ _ _ _ _ => rfl
      have hlen6 : (l[k].row).length = 6 := rfl
      have hcell : l[k].row.all cellD = true := rfl
      have w1 : IntKind.i64.wrap ((k : Int) + 1) = k + 1 := wrap_i64 (by omega) (by omega)
      have hnx : ∀ S : St, rowAt l k = true → S.get 7 = some (.int .i64 ((k : Int) + 1)) → S.get 6 = some (.int .i64 l.length) → S.get 5 = some (.fz 6 (tkRows l)) → S.get 0 = some (.fz 6 (tkRows l)) → N S := by
        intro S hm g1 g2 g3 g4
        refine hN' _ (k + 1) ⟨hk2, ?_⟩ (by omega) (Sub.pl 0 hN (Nat.zero_le _) (Nat.zero_le _) ?_)
        · rw [List.range_succ, List.all_append, hall]; simp [hm]
        · simp only [plT, plain, tkRows_plain, and_true, true_and, g1, g2, g3, g4]
          rfl
      have hbad : ∀ S : St, rowAt l k = false → S.get 2 = some (.bool false) → Q S := by
        intro S hm g
        refine hQ S <| retQ_pure [.bool false] (by simp only [resD, g]; rfl) rfl ⟨?_, rfl⟩
        simp only [retV]
        congr 1
        rw [rowP, eq_comm, List.all_eq_false]
        exact ⟨k, by simpa using hk2, by simp [hm]⟩
      simp only [EV, EX, hP, reduceIte, Nat.reduceEqDiff, Nat.reduceAdd, Nat.reduceSub, binA, IN, DR, DX, Nat.reduceMul, keysU, MX, buildA, fillA, faddrA, load_ptr, load_fp, rowOf_eq, packA, TK.isAgg, cellsOf, cellD, boxA, allocA, storeA, putCells, Nat.reduceLeDiff, extA, iaddr_fz, elSize_eq ty24 ty36, tkRows_length, hb, tkRows_getD hk2, ty36, h6, htk, hput, hlen6, hcell, cells_agg]
      refine callD_pure hP (s_taskMay l[k] (hf _ (List.getElem_mem hk2))) (by simp [plainL, plain, Tk.row_plain]) rfl ?_
      simp only [EV, EX, hP, reduceIte, Nat.reduceEqDiff, Nat.reduceAdd, Nat.reduceSub, binA, IN, DR, DX, Nat.reduceMul, keysU, MX, buildA, fillA, faddrA, load_ptr, load_fp, rowOf_eq, packA, TK.isAgg, cellsOf, cellD, boxA, allocA, storeA, putCells, Nat.reduceLeDiff, extA]
      by_cases hm : mayT l[k] = 0
      · simp only [EV, EX, hP, reduceIte, Nat.reduceEqDiff, Nat.reduceAdd, Nat.reduceSub, binA, IN, DR, DX, Nat.reduceMul, keysU, MX, buildA, fillA, faddrA, load_ptr, load_fp, rowOf_eq, packA, TK.isAgg, cellsOf, cellD, boxA, allocA, storeA, putCells, Nat.reduceLeDiff, extA, hm, decide_true, Bool.not_true]
        by_cases hk0 : k = 0
        · have g0 : ((0 : Int) < (k : Int)) = False := by simp; omega
          simp only [EV, EX, hP, reduceIte, Nat.reduceEqDiff, Nat.reduceAdd, Nat.reduceSub, binA, IN, DR, DX, Nat.reduceMul, keysU, MX, buildA, fillA, faddrA, load_ptr, load_fp, rowOf_eq, packA, TK.isAgg, cellsOf, cellD, boxA, allocA, storeA, putCells, Nat.reduceLeDiff, extA, g0, decide_false, pickA, drF_eq]
          refine ⟨by kernel_rfl, ?_⟩
          simp only [EV, EX, hP, reduceIte, Nat.reduceEqDiff, Nat.reduceAdd, Nat.reduceSub, binA, IN, w1]
          exact hnx _ (by unfold rowAt; rw [tkAt_get hk2, hm]; simp [hk0]) rfl rfl rfl rfl
        · have g0 : ((0 : Int) < (k : Int)) = True := by simp; omega
          have hk3 : k - 1 < l.length := by omega
          have w0 : IntKind.i64.wrap ((k : Int) - 1) = ((k - 1 : Nat) : Int) := by rw [wrap_i64 (by omega) (by omega)]; omega
          have hb3 : (0 : Int) ≤ ((k - 1 : Nat) : Int) ∧ ((k - 1 : Nat) : Int) < l.length := by omega
          simp only [EV, EX, hP, reduceIte, Nat.reduceEqDiff, Nat.reduceAdd, Nat.reduceSub, binA, IN, DR, DX, Nat.reduceMul, keysU, MX, buildA, fillA, faddrA, load_ptr, load_fp, rowOf_eq, packA, TK.isAgg, cellsOf, cellD, boxA, allocA, storeA, putCells, Nat.reduceLeDiff, extA, g0, decide_true, pickA, w0, iaddr_fz, elSize_eq ty24 ty36, tkRows_length, hb3, tkRows_getD hk3, ty36, ty3, Tk.row]
          by_cases hr : l[k - 1].rank < l[k].rank
          · have hr2 : (l[k].rank ≤ l[k - 1].rank) = False := by simp; omega
            simp only [hr2, decide_false, EV, EX, hP, reduceIte, Nat.reduceEqDiff, Nat.reduceAdd, Nat.reduceSub, binA, IN, DR, DX, Nat.reduceMul, keysU, MX, buildA, fillA, faddrA, load_ptr, load_fp, rowOf_eq, packA, TK.isAgg, cellsOf, cellD, boxA, allocA, storeA, putCells, Nat.reduceLeDiff, extA, pickA, drF_eq]
            refine ⟨by kernel_rfl, ?_⟩
            simp only [EV, EX, hP, reduceIte, Nat.reduceEqDiff, Nat.reduceAdd, Nat.reduceSub, binA, IN, w1]
            exact hnx _ (by simp [rowAt, tkAt_get hk2, tkAt_get hk3, hm, hk0, hr]) rfl rfl rfl rfl
          · have hr2 : (l[k].rank ≤ l[k - 1].rank) = True := by simp; omega
            simp only [hr2, decide_true, EV, EX, hP, reduceIte, Nat.reduceEqDiff, Nat.reduceAdd, Nat.reduceSub, binA, IN, DR, DX, Nat.reduceMul, keysU, MX, buildA, fillA, faddrA, load_ptr, load_fp, rowOf_eq, packA, TK.isAgg, cellsOf, cellD, boxA, allocA, storeA, putCells, Nat.reduceLeDiff, extA, pickA, drF_eq]
            refine ⟨by kernel_rfl, ?_⟩
            try simp only [EV, EX, hP, reduceIte, Nat.reduceEqDiff, Nat.reduceAdd, Nat.reduceSub, binA, IN]
            exact hbad _ (by simp [rowAt, tkAt_get hk2, tkAt_get hk3, hm, hk0, hr]) rfl
      · simp only [EV, EX, hP, reduceIte, Nat.reduceEqDiff, Nat.reduceAdd, Nat.reduceSub, binA, IN, DR, DX, Nat.reduceMul, keysU, MX, buildA, fillA, faddrA, load_ptr, load_fp, rowOf_eq, packA, TK.isAgg, cellsOf, cellD, boxA, allocA, storeA, putCells, Nat.reduceLeDiff, extA, hm, decide_false, Bool.not_false, pickA, drF_eq]
        refine ⟨by kernel_rfl, ?_⟩
        try simp only [EV, EX, hP, reduceIte, Nat.reduceEqDiff, Nat.reduceAdd, Nat.reduceSub, binA, IN]
        exact hbad _ (by simp [rowAt, tkAt_get hk2, hm]) rfl
    · have hk2 : k = l.length := by omega
      subst hk2
      simp only [EV, EX, hP, reduceIte, Nat.reduceEqDiff, Nat.reduceAdd, Nat.reduceSub, binA, IN]
      refine hQ _ <| retQ_pure [.bool true] rfl rfl ⟨?_, rfl⟩
      simp only [retV, rowP, hall]
end Go.Fv
/- PLAIN: how great what is reckoned of a task is. -/
namespace Go.Fv

theorem satAdd_eq {a b : Int} (h1 : a + b ≤ 9223372036854775807) (h2 : -9223372036854775808 ≤ a + b) : satAdd a b = (a + b, true) := by
  unfold satAdd
  rw [if_neg (by omega), if_neg (by omega)]
theorem satMul_eq {a b : Int} (h1 : a * b ≤ 9223372036854775807) (h2 : -9223372036854775808 ≤ a * b) : satMul a b = (a * b, true) := by
  unfold satMul
  rw [if_neg (by omega), if_neg (by omega)]

theorem sum_nonneg : ∀ {ns : List Int}, (∀ n ∈ ns, 0 ≤ n) → 0 ≤ ns.sum
  | [], _ => by simp
  | a :: bs, h => by
    simp only [List.sum_cons]
    have := h a (by simp)
    have := sum_nonneg (ns := bs) fun m hm => h m (by simp [hm])
    omega
theorem satSum_sum {ns : List Int} (h : ∀ n ∈ ns, 0 ≤ n) (hs : ns.sum ≤ 9223372036854775807) : satSum ns = ns.sum := by
  have key : ∀ (ns : List Int) (s : Int), 0 ≤ s → (∀ n ∈ ns, 0 ≤ n) → s + ns.sum ≤ 9223372036854775807 → ns.foldl (fun s n => (satAdd s n).1) s = s + ns.sum := by
    intro ns
    induction ns with
    | nil => intro s hs _ _; simp
    | cons n ns ih =>
      intro s hs hn hb
      have h0 := hn n (by simp)
      have hsum : 0 ≤ ns.sum := sum_nonneg fun m hm => hn m (by simp [hm])
      simp only [List.foldl_cons, List.sum_cons] at hb ⊢
      rw [satAdd_eq (by omega) (by omega)]
      rw [ih (s + n) (by omega) (fun m hm => hn m (by simp [hm])) (by omega)]
      omega
  have := key ns 0 (by omega) h (by omega)
  unfold satSum
  rw [this]; omega

theorem sum_take_drop {ns : List Int} (h : ∀ n ∈ ns, 0 ≤ n) (a b : Nat) : 0 ≤ ((ns.take b).drop a).sum ∧ ((ns.take b).drop a).sum ≤ ns.sum := by
  have e1 := List.take_append_drop b ns
  have e2 := List.take_append_drop a (ns.take b)
  have s1 : ns.sum = (ns.take b).sum + (ns.drop b).sum := by rw [← List.sum_append, e1]
  have s2 : (ns.take b).sum = ((ns.take b).take a).sum + ((ns.take b).drop a).sum := by rw [← List.sum_append, e2]
  have h1 := sum_nonneg (ns := ns.drop b) fun m hm => h m (List.mem_of_mem_drop hm)
  have h2 := sum_nonneg (ns := (ns.take b).take a) fun m hm => h m (List.mem_of_mem_take (List.mem_of_mem_take hm))
  have h3 := sum_nonneg (ns := (ns.take b).drop a) fun m hm => h m (List.mem_of_mem_take (List.mem_of_mem_drop hm))
  omega
theorem mem_le_sum {ns : List Int} (h : ∀ n ∈ ns, 0 ≤ n) : ∀ n ∈ ns, n ≤ ns.sum := by
  induction ns with
  | nil => simp
  | cons a bs ih =>
    intro n hn
    simp only [List.sum_cons]
    have ha := h a (by simp)
    have hs := sum_nonneg (ns := bs) fun m hm => h m (by simp [hm])
    rcases List.mem_cons.1 hn with e | hn
    · rw [e]; omega
    · have := ih (fun m hm => h m (by simp [hm])) n hn
      omega

/-- Numbers of a code, where their sum is small. -/
theorem costUpto_small {l : List Inst} {ts ps : List Int} (hpos : ∀ n ∈ ts, 1 ≤ n) (hlt : ts.sum < 9223372036854775807) : ∀ i, 0 ≤ (costUpto l ts ps i).1 ∧ (costUpto l ts ps i).1 ≤ ts.sum ∧ ∀ x ∈ (costUpto l ts ps i).2.2, 0 ≤ x.2 ∧ x.2 ≤ ts.sum
  | 0 => by
    have := sum_nonneg (ns := ts) fun n hn => by have := hpos n hn; omega
    simp only [costUpto]; exact ⟨by omega, this, by simp⟩
  | i + 1 => by
    have h0 : ∀ n ∈ ts, 0 ≤ n := fun n hn => by have := hpos n hn; omega
    obtain ⟨g1, g2, g3⟩ := costUpto_small (l := l) (ps := ps) hpos hlt i
    have hb : ∀ a b, 0 ≤ between ts a b ∧ between ts a b ≤ ts.sum := by
      intro a b
      have := sum_take_drop h0 a b
      unfold between
      rw [satSum_sum (fun n hn => h0 n (List.mem_of_mem_take (List.mem_of_mem_drop hn))) (by omega)]
      exact this
    simp only [costUpto]
    split
    · have := hb (costUpto l ts ps i).2.1 (i + 1)
      refine ⟨?_, ?_, g3⟩ <;> simp only <;> omega
    · split
      · refine ⟨g1, g2, fun x hx => ?_⟩
        simp only at hx
        rcases List.mem_append.1 hx with hx | hx
        · exact g3 x hx
        · simp only [List.mem_singleton] at hx
          subst hx
          simp only
          have h2 := hb (i + 1) ((ps.getD i 0).toNat + 1)
          by_cases ht : 0 ≤ ts.getD i 0
          · refine ⟨Int.tdiv_nonneg h2.1 ht, ?_⟩
            rw [Int.tdiv_eq_ediv_of_nonneg h2.1]
            have := Int.ediv_le_self (ts.getD i 0) h2.1
            omega
          · exfalso
            rw [List.getD_eq_getElem?_getD] at ht
            cases hg : ts[i]? with
            | none => rw [hg] at ht; simp at ht
            | some v => rw [hg] at ht; have := h0 v (List.mem_of_getElem? hg); simp at ht; omega
      · exact ⟨g1, g2, g3⟩

theorem costP_inv {l : List Inst} {c : Cost} (h : costP l = some c) : shapeMay l = true ∧ ∃ ps, pairsOf l (sameB l) = some ps ∧ c = ⟨satSum (costTimes l), (costUpto l (costTimes l) ps l.length).1, (costUpto l (costTimes l) ps l.length).2.2⟩ := by
  unfold costP at h
  split at h
  · rename_i hs
    split at h
    · rename_i ps hp; cases h; exact ⟨hs, ps, hp, rfl⟩
    · cases h
  · cases h

-- how often each is done ----------------------------------------------------------------------------------------------------------------
def cN (ps : List Area) (k : Nat) : Nat := (ps.filter fun p => p.body && p.has k).length
theorem cN_append (a b : List Area) (k : Nat) : cN (a ++ b) k = cN a k + cN b k := by simp [cN, List.filter_append]
theorem cN_areaAt (i k : Nat) (x : Inst) : cN (areaAt i x) k = if x.op = 8 ∧ i < k ∧ (k : Int) ≤ i + x.b then 1 else 0 := by
  unfold areaAt cN
  by_cases h7 : x.op = 7
  · rw [if_pos h7, if_neg (by omega)]; simp
  · rw [if_neg h7]
    by_cases h8 : x.op = 8
    · rw [if_pos h8]
      by_cases hc : i < k ∧ (k : Int) ≤ i + x.b
      · rw [if_pos ⟨h8, hc⟩]
        have : Area.has ⟨(i : Int) + 1, (i : Int) + x.b, i, true⟩ k = true := by simp [Area.has]; omega
        simp [this]
      · rw [if_neg (fun h => hc h.2)]
        have : Area.has ⟨(i : Int) + 1, (i : Int) + x.b, i, true⟩ k = false := by simp [Area.has]; omega
        simp [this]
    · rw [if_neg h8, if_neg (fun h => h8 h.1)]; rfl
theorem cN_mono {l : List Inst} {k : Nat} : ∀ {i j : Nat}, i ≤ j → j ≤ l.length → cN (areasOf (l.take i)) k ≤ cN (areasOf (l.take j)) k
  | i, 0, h, _ => by have : i = 0 := by omega
                     subst this; exact Nat.le_refl _
  | i, j + 1, h, hj => by
    by_cases e : i = j + 1
    · subst e; exact Nat.le_refl _
    · have := cN_mono (l := l) (k := k) (show i ≤ j by omega) (by omega)
      rw [areasOf_take (show j < l.length by omega), cN_append]
      omega
theorem nest_cN {l : List Inst} (h : nestOk l = true) {k : Nat} (hk : k < l.length) : cN (areasOf l) k ≤ 2 := by
  unfold nestOk at h
  rw [Bool.and_eq_true] at h
  have := List.all_eq_true.1 h.2 k (by simpa using hk)
  have h2 : ((cN (areasOf l) k : Nat) : Int) ≤ 2 := of_decide_eq_true this
  omega

/-- How often an instruction is done, without a bound. -/
def tmR (l : List Inst) (ps : List Area) (k : Nat) : Int := ps.foldl (fun s a => if (a.body && a.has k) = true then s * (nth l a.o.toNat).n else s) 1
theorem tmR_areaAt {l : List Inst} {ps : List Area} {i k : Nat} (hi : i < l.length) : tmR l (ps ++ areaAt i l[i]) k = if l[i].op = 8 ∧ i < k ∧ (k : Int) ≤ i + l[i].b then tmR l ps k * l[i].n else tmR l ps k := by
  unfold tmR areaAt
  rw [List.foldl_append]
  by_cases h7 : l[i].op = 7
  · rw [if_pos h7, if_neg (by omega)]; simp
  · rw [if_neg h7]
    by_cases h8 : l[i].op = 8
    · rw [if_pos h8]
      by_cases hc : i < k ∧ (k : Int) ≤ i + l[i].b
      · rw [if_pos ⟨h8, hc⟩]
        have : Area.has ⟨(i : Int) + 1, (i : Int) + l[i].b, i, true⟩ k = true := by simp [Area.has]; omega
        simp [this, nth_get hi]
      · rw [if_neg (fun h => hc h.2)]
        have : Area.has ⟨(i : Int) + 1, (i : Int) + l[i].b, i, true⟩ k = false := by simp [Area.has]; omega
        simp [this]
    · rw [if_neg h8, if_neg (fun h => h8 h.1)]; rfl

theorem tm_exact {l : List Inst} (hx : ∀ x ∈ l, x.may = true) (hn : nestOk l = true) {k : Nat} (hk : k < l.length) : ∀ i, i ≤ l.length → tmUpto l i k = tmR l (areasOf (l.take i)) k ∧ 1 ≤ tmUpto l i k ∧ tmUpto l i k ≤ 20 ^ cN (areasOf (l.take i)) k
  | 0, _ => by simp [tmUpto, tmR, areasOf, cN]
  | i + 1, h => by
    obtain ⟨h1, h2, h3⟩ := tm_exact hx hn hk i (by omega)
    have hi : i < l.length := by omega
    rw [tmUpto_succ hi, areasOf_take hi, tmR_areaAt hi, cN_append, cN_areaAt]
    split
    · rename_i hc
      have hm := hx l[i] (List.getElem_mem hi)
      have hb : 1 ≤ l[i].n ∧ l[i].n ≤ 20 := by simp [Inst.may, hc.1, btw] at hm; omega
      have hcN : cN (areasOf (l.take (i + 1))) k ≤ 2 := by
        have := cN_mono (l := l) (k := k) (show i + 1 ≤ l.length by omega) (Nat.le_refl _)
        rw [List.take_length] at this
        exact Nat.le_trans this (nest_cN hn hk)
      rw [areasOf_take hi, cN_append, cN_areaAt, if_pos hc] at hcN
      generalize cN (areasOf (l.take i)) k = c at *
      have hp : tmUpto l i k * l[i].n ≤ 20 ^ c * 20 := Int.mul_le_mul h3 hb.2 (by omega) (by have := Int.pow_nonneg (n := 20) (m := c) (by omega); omega)
      have hp1 : 1 ≤ tmUpto l i k * l[i].n := by have := Int.mul_le_mul h2 hb.1 (by omega) (by omega); omega
      have hpow : (20 : Int) ^ (c + 1) ≤ 400 := by
        have : c = 0 ∨ c = 1 := by omega
        rcases this with rfl | rfl <;> decide
      rw [Int.pow_succ] at hpow
      rw [satMul_eq (by omega) (by omega)]
      refine ⟨by rw [h1], hp1, ?_⟩
      rw [Int.pow_succ]; exact hp
    · exact ⟨h1, h2, h3⟩

theorem costTimes_exact {l : List Inst} (hx : ∀ x ∈ l, x.may = true) (hn : nestOk l = true) : costTimes l = (List.range l.length).map (tmR l (areasOf l)) ∧ ∀ n ∈ costTimes l, 1 ≤ n ∧ n ≤ 400 := by
  refine ⟨?_, ?_⟩
  · apply List.map_congr_left
    intro k hk
    have := (tm_exact hx hn (by simpa using hk) l.length (Nat.le_refl _)).1
    rw [List.take_length] at this
    exact this
  · intro n hn2
    obtain ⟨k, hk, rfl⟩ := List.mem_map.1 hn2
    have hk2 : k < l.length := by simpa using hk
    obtain ⟨_, h2, h3⟩ := tm_exact hx hn hk2 l.length (Nat.le_refl _)
    rw [List.take_length] at h3
    have hc := nest_cN hn hk2
    have : (20 : Int) ^ cN (areasOf l) k ≤ 400 := by
      have : cN (areasOf l) k = 0 ∨ cN (areasOf l) k = 1 ∨ cN (areasOf l) k = 2 := by omega
      rcases this with e | e | e <;> rw [e] <;> decide
    omega
theorem sum_le_len {ns : List Int} {m : Int} (h : ∀ n ∈ ns, n ≤ m) : ns.sum ≤ ns.length * m := by
  induction ns with
  | nil => simp
  | cons a bs ih =>
    have h1 := h a (by simp)
    have h2 := ih fun n hn => h n (by simp [hn])
    simp only [List.sum_cons, List.length_cons]
    have : ((bs.length + 1 : Nat) : Int) * m = bs.length * m + m := by rw [Int.natCast_add, Int.add_mul]; simp
    omega

/-- What a code costs, if there is any. -/
theorem costP_small {l : List Inst} {c : Cost} (h : costP l = some c) : c.all = (costTimes l).sum ∧ 1 ≤ c.all ∧ c.all ≤ 9600 ∧ 1 ≤ c.piece ∧ c.piece ≤ c.all ∧ ∀ x ∈ c.spans, 0 ≤ x.2 ∧ x.2 ≤ c.all := by
  obtain ⟨hs, ps, hp, rfl⟩ := costP_inv h
  obtain ⟨hlen, hx, hend, hnest, _⟩ := shapeMay_inv hs
  obtain ⟨_, hb⟩ := costTimes_exact hx hnest
  have hpos : ∀ n ∈ costTimes l, 1 ≤ n := fun n hn => (hb n hn).1
  have h0 : ∀ n ∈ costTimes l, 0 ≤ n := fun n hn => by have := hpos n hn; omega
  have hle := sum_le_len (m := 400) fun n hn => (hb n hn).2
  rw [costTimes_length] at hle
  have hall : satSum (costTimes l) = (costTimes l).sum := satSum_sum h0 (by omega)
  obtain ⟨g1, g2, g3⟩ := costUpto_small (l := l) (ps := ps) hpos (by omega) l.length
  have hl1 : (costTimes l).length = l.length := costTimes_length l
  have hne : (costTimes l)[l.length - 1]? = some ((costTimes l)[l.length - 1]'(by omega)) := List.getElem?_eq_getElem (by omega)
  have hlast := hpos _ (List.mem_of_getElem? hne)
  have hsum1 := mem_le_sum h0 _ (List.mem_of_getElem? hne)
  simp only
  rw [hall]
  refine ⟨rfl, by omega, by omega, ?_, g2, g3⟩
  -- the end closes the last piece
  have hop : (nth l (l.length - 1)).op = 0 := by
    rw [nth_get (by omega)]
    unfold idxOf at hend
    cases hf : l.findIdx? (fun x : Inst => decide (x.op = 0)) with
    | none => rw [hf] at hend; simp at hend; omega
    | some i =>
      rw [hf] at hend
      simp only at hend
      rw [List.findIdx?_eq_some_iff_getElem] at hf
      obtain ⟨h1, h2, _⟩ := hf
      have : i = l.length - 1 := by omega
      subst this
      simpa using h2
  obtain ⟨m, hm⟩ : ∃ m, l.length = m + 1 := ⟨l.length - 1, by omega⟩
  rw [hm] at hop ⊢
  simp only [Nat.add_sub_cancel] at hop
  simp only [costUpto, hop, or_true, if_true]
  have hfr := costUpto_from (l := l) (ts := costTimes l) (ps := ps) m
  have hbt : between (costTimes l) (costUpto l (costTimes l) ps m).2.1 (m + 1) = (((costTimes l).take (m + 1)).drop (costUpto l (costTimes l) ps m).2.1).sum := by
    unfold between
    refine satSum_sum (fun n hn => h0 n (List.mem_of_mem_take (List.mem_of_mem_drop hn))) ?_
    have := sum_take_drop h0 (costUpto l (costTimes l) ps m).2.1 (m + 1); omega
  have hge : 1 ≤ between (costTimes l) (costUpto l (costTimes l) ps m).2.1 (m + 1) := by
    rw [hbt]
    rw [List.take_of_length_le (by omega)]
    have hmem : (costTimes l)[m]'(by omega) ∈ (costTimes l).drop (costUpto l (costTimes l) ps m).2.1 := by
      rw [List.mem_iff_getElem]
      exact ⟨m - (costUpto l (costTimes l) ps m).2.1, by rw [List.length_drop]; omega, by simp only [List.getElem_drop]; congr 1; omega⟩
    have := mem_le_sum (ns := (costTimes l).drop (costUpto l (costTimes l) ps m).2.1) (fun n hn => h0 n (List.mem_of_mem_drop hn)) _ hmem
    have := hpos _ (List.getElem_mem (show m < (costTimes l).length by omega))
    omega
  omega

/-- What a task that may be costs. -/
theorem costsT_small {t : Tk} (h : mayT t = 0) : 1 ≤ (costsT t).1 ∧ (costsT t).1 ≤ t.fin ∧ 1 ≤ (costsT t).2.1 ∧ (costsT t).2.1 ≤ (costsT t).1 ∧ (∀ x ∈ (costsT t).2.2, 0 ≤ x.2 ∧ x.2 ≤ 9600) ∧ t.fin ≤ t.period ∧ t.period ≤ 16384 ∧ 1 ≤ t.fin ∧ (costsT t).1 ≤ 9600 := by
  have h' := h
  obtain ⟨m, hm⟩ := costP_some (mayT_main h)
  unfold mayT at h
  split at h
  · omega
  · split at h
    · omega
    · split at h
      · omega
      · split at h
        · omega
        · split at h
          · omega
          · rename_i h1 h2 h3 h4 h5
            obtain ⟨_, a1, a2, a3, a4, a5⟩ := costP_small hm
            have hlm : longP t.main = m.all := by simp only [longP, hm]
            unfold costsT
            rw [if_pos h', hm]
            cases hw : costP t.way with
            | none => simp only; refine ⟨by omega, by omega, by omega, by omega, fun x hx => ?_, by omega, by omega, by omega, by omega⟩; have := a5 x hx; omega
            | some w =>
              obtain ⟨_, b1, b2, b3, b4, b5⟩ := costP_small hw
              have hlw : longP t.way = w.all := by simp only [longP, hw]
              simp only
              refine ⟨by omega, by omega, by omega, by omega, fun x hx => ?_, by omega, by omega, by omega, by omega⟩
              rcases List.mem_append.1 hx with hx | hx
              · have := a5 x hx; omega
              · have := b5 x hx; omega
theorem costsT_spans_small (t : Tk) : ∀ x ∈ (costsT t).2.2, 0 ≤ x.2 ∧ x.2 ≤ 9600 := by
  by_cases h : mayT t = 0
  · exact (costsT_small h).2.2.2.2.1
  · unfold costsT; rw [if_neg h]; simp
theorem byOf_small (l : List Tk) (i : Int) : 0 ≤ byOf l i ∧ byOf l i ≤ 9600 := by
  have hs : ∀ (sp : List (Int × Int)) (m : Int), (∀ x ∈ sp, 0 ≤ x.2 ∧ x.2 ≤ 9600) → 0 ≤ m → m ≤ 9600 → 0 ≤ bySpans l i sp m ∧ bySpans l i sp m ≤ 9600 := by
    intro sp
    induction sp with
    | nil => intro m _ h1 h2; exact ⟨h1, h2⟩
    | cons s sp ih =>
      intro m h h1 h2
      have hs := h s (by simp)
      simp only [bySpans, List.foldl_cons]
      exact ih _ (fun x hx => h x (by simp [hx])) (by split <;> omega) (by split <;> omega)
  have : ∀ k, k ≤ l.length → 0 ≤ byUpto l i k ∧ byUpto l i k ≤ 9600 := by
    intro k
    induction k with
    | zero => intro _; simp [byUpto]
    | succ k ih =>
      intro h
      have h1 := ih (by omega)
      rw [byUpto_succ (show k < l.length by omega)]
      split
      · exact h1
      · exact hs _ _ (costsT_spans_small _) h1.1 h1.2
  exact this _ (Nat.le_refl _)
end Go.Fv
/- CONTRACTS: bound.Resp. -/
namespace Go.Fv
open Go.Proofs

def upI (r a : Int) : Int := (satUp r a).1
theorem upI_eq {r a : Int} (hr : 0 ≤ r) (ha : 1 ≤ a) : upI r a = (r + a - 1) / a := by
  unfold upI satUp
  rw [if_neg (by omega)]
theorem upI_nonneg {r a : Int} (hr : 0 ≤ r) (ha : 1 ≤ a) : 0 ≤ upI r a := by
  rw [upI_eq hr ha]; exact Int.ediv_nonneg (by omega) (by omega)
theorem upI_le {r a : Int} (hr : 0 ≤ r) (ha : 1 ≤ a) : upI r a ≤ r := by
  rw [upI_eq hr ha]
  by_cases h : r = 0
  · subst h
    have : (0 + a - 1) / a = 0 := Int.ediv_eq_zero_of_lt (by omega) (by omega)
    omega
  · refine Int.ediv_le_of_le_mul (by omega) ?_
    have := Int.mul_nonneg (show 0 ≤ r - 1 by omega) (show 0 ≤ a - 1 by omega)
    have e : (r - 1) * (a - 1) = r * a - r - a + 1 := by rw [Int.sub_mul, Int.mul_sub, Int.mul_sub]; omega
    omega
theorem upI_mono {r s a : Int} (hr : 0 ≤ r) (h : r ≤ s) (ha : 1 ≤ a) : upI r a ≤ upI s a := by
  rw [upI_eq hr ha, upI_eq (by omega) ha]
  exact Int.ediv_le_ediv (by omega) (by omega)
def lostUpto (l : List Tk) : Nat → Int
  | 0 => 0
  | k + 1 => max (lostUpto l k) (costsT (tkAt l k)).2.1
def sumUpto (l : List Tk) (r : Int) : Nat → Int
  | 0 => 0
  | k + 1 => sumUpto l r k + upI r (tkAt l k).period * (costsT (tkAt l k)).1
/-- What is reckoned to hold for a task to come to its end. -/
def rhs (l : List Tk) (i : Nat) (apart r : Int) : Int := (costsT (tkAt l i)).1 + byOf l i + upI r apart * lostUpto l (i + 1) + sumUpto l r i

/-- Rounds: how long, how many, or why it is not told (14: above the end). -/
def respIter (f : Int → Int) (E : Int) : Nat → Int → Int → Int × Int × Int
  | 0, _, _ => (0, 0, 14)
  | m + 1, r, n => if E < f r then (0, 0, 14) else if f r = r then (r, n, 0) else respIter f E m (f r) (n + 1)
def respOf (l : List Tk) (i : Nat) (apart : Int) : Int × Int × Int := respIter (rhs l i apart) (tkAt l i).fin 20000 ((costsT (tkAt l i)).1 + byOf l i) 1
def respP (l : List Tk) (i apart : Int) : Int × Int × Int :=
  if rowP l = false ∨ i < 0 ∨ (l.length : Int) ≤ i ∨ apart < 1 then (0, 0, 1) else respOf l i.toNat apart

theorem rowP_may {l : List Tk} (h : rowP l = true) : ∀ k, k < l.length → mayT (tkAt l k) = 0 ∧ (0 < k → (tkAt l (k - 1)).rank < (tkAt l k).rank) := by
  intro k hk
  have := List.all_eq_true.1 h k (by simpa using hk)
  unfold rowAt at this
  rw [Bool.and_eq_true, Bool.or_eq_true] at this
  simp only [decide_eq_true_eq] at this
  exact ⟨this.1, fun h0 => this.2.resolve_left (by omega)⟩
theorem lostUpto_small {l : List Tk} (h : ∀ k, k < l.length → mayT (tkAt l k) = 0) : ∀ k, k ≤ l.length → 0 ≤ lostUpto l k ∧ lostUpto l k ≤ 9600
  | 0, _ => by simp [lostUpto]
  | k + 1, hk => by
    have ih := lostUpto_small h k (by omega)
    obtain ⟨a1, a2, a3, a4, a5, a6, a7, a8, a9⟩ := costsT_small (h k (by omega))
    simp only [lostUpto]; omega
theorem sumUpto_small {l : List Tk} (h : ∀ k, k < l.length → mayT (tkAt l k) = 0) {r : Int} (hr : 0 ≤ r) : ∀ k, k ≤ l.length → 0 ≤ sumUpto l r k ∧ sumUpto l r k ≤ k * (r * 9600)
  | 0, _ => by simp [sumUpto]
  | k + 1, hk => by
    have ih := sumUpto_small h hr k (by omega)
    obtain ⟨a1, a2, a3, a4, a5, a6, a7, a8, a9⟩ := costsT_small (h k (by omega))
    have hp : 1 ≤ (tkAt l k).period := by omega
    have u1 := upI_nonneg hr hp
    have u2 := upI_le hr hp
    have m1 : 0 ≤ upI r (tkAt l k).period * (costsT (tkAt l k)).1 := Int.mul_nonneg u1 (by omega)
    have m2 : upI r (tkAt l k).period * (costsT (tkAt l k)).1 ≤ r * 9600 := Int.mul_le_mul u2 a9 (by omega) hr
    simp only [sumUpto]
    have : ((k + 1 : Nat) : Int) * (r * 9600) = k * (r * 9600) + r * 9600 := by rw [Int.natCast_add, Int.add_mul]; simp
    omega
theorem sumUpto_mono {l : List Tk} (h : ∀ k, k < l.length → mayT (tkAt l k) = 0) {r s : Int} (hr : 0 ≤ r) (hs : r ≤ s) : ∀ k, k ≤ l.length → sumUpto l r k ≤ sumUpto l s k
  | 0, _ => Int.le_refl _
  | k + 1, hk => by
    have ih := sumUpto_mono h hr hs k (by omega)
    obtain ⟨a1, a2, a3, a4, a5, a6, a7, a8, a9⟩ := costsT_small (h k (by omega))
    have := Int.mul_le_mul_of_nonneg_right (upI_mono hr hs (show 1 ≤ (tkAt l k).period by omega)) (show 0 ≤ (costsT (tkAt l k)).1 by omega)
    simp only [sumUpto]; omega
theorem rhs_mono {l : List Tk} (h : ∀ k, k < l.length → mayT (tkAt l k) = 0) {i : Nat} (hi : i < l.length) {apart r s : Int} (ha : 1 ≤ apart) (hr : 0 ≤ r) (hs : r ≤ s) : rhs l i apart r ≤ rhs l i apart s := by
  have h1 := sumUpto_mono h hr hs i (by omega)
  have h2 := Int.mul_le_mul_of_nonneg_right (upI_mono hr hs ha) (lostUpto_small h (i + 1) (by omega)).1
  unfold rhs; omega
theorem rhs_base {l : List Tk} (h : ∀ k, k < l.length → mayT (tkAt l k) = 0) {i : Nat} (hi : i < l.length) {apart r : Int} (ha : 1 ≤ apart) (hr : 0 ≤ r) : (costsT (tkAt l i)).1 + byOf l i ≤ rhs l i apart r := by
  have h1 := sumUpto_small h hr i (by omega)
  have h2 := Int.mul_nonneg (upI_nonneg hr ha) (lostUpto_small h (i + 1) (by omega)).1
  unfold rhs; omega

theorem addS_exact {s n v : Int} (hs : 0 ≤ s) (hn : 0 ≤ n) (hv : 0 ≤ v) (hb : s + n * v ≤ 9223372036854775807) : addS (s, false) n v = (s + n * v, false) := by
  have := Int.mul_nonneg hn hv
  unfold addS
  rw [satMul_eq (by omega) (by omega)]
  simp only
  rw [satAdd_eq (by omega) (by omega)]; rfl

theorem call_add (s : Int × Bool) (n v : Int) (hs : i64r s.1) (hn : i64r n) (hv : i64r v) (nm nb : Nat) (h : Nat → Option Blk) (hb : h nm = some (.rows 2 [[.int .i64 s.1, .bool s.2]])) :
    CallR Try.prog (.fn 36 [] []) [.ptr nm 0 0, .int .i64 n, .int .i64 v] h nb fun d U => d = .tup [] ∧ U = [(nm, some (.rows 2 [[.int .i64 (addS s n v).1, .bool (addS s n v).2]]))] := by
  refine (s_add s n v hs hn hv).callR [nm] nb rfl (by simp) rfl (by simp [renL, ren, sg]) ⟨⟨_, _, rfl, by simp [renB, renR, renL, ren], hb⟩, trivial⟩ ?_
  rintro d U ⟨rfl, rfl⟩
  exact ⟨.tup [], _, rfl, by simp [renU, renOB, renB, renR, renL, ren, sg], rfl, rfl⟩

theorem tkRows_take {l : List Tk} {n k : Nat} (hk : k < n) (hn : n ≤ l.length) : (tkRows (l.take n)).getD k [] = (tkAt l k).row := by
  rw [tkRows_getD (by rw [List.length_take]; omega), List.getElem_take, tkAt_get (by omega)]

set_option maxRecDepth 100000 in
theorem s_resp (l : List Tk) (hl : l.length ≤ 1000) (hf : ∀ t ∈ l, t.fit) (i apart : Int) (hi : i64r i) (hap : i64r apart) :
    Pure Try.prog 15 [.fz 6 (tkRows l), .int .i64 i, .int .i64 apart] (.tup [.int .i64 (respP l i apart).1, .int .i64 (respP l i apart).2.1, .int .i64 (respP l i apart).2.2]) := by
  refine Spec.walk ok15 fun C Q hP hN hQ => ?_
  unfold c15
  have hq : ∀ q, ∀ n, C.N0 n → n < q := fun q n hn => absurd (hN n hn) (by omega)
  simp only [EV, EX, hP, reduceIte, Nat.reduceEqDiff, Nat.reduceAdd, Nat.reduceSub, binA, IN, MX, buildA, fillA, faddrA, load_ptr, load_fp, rowOf_eq, packA, TK.isAgg, cellsOf, cellD, boxA, allocA, storeA, putCells, Nat.reduceLeDiff, extA]
  refine callW_pure hP (s_row l hl hf) (by simp [plainL, plain, tkRows_plain]) rfl ?_
  by_cases hbad : rowP l = false ∨ i < 0 ∨ (l.length : Int) ≤ i ∨ apart < 1
  · have hret : ∀ S : St, S.get 6 = some (.int .i64 0) → S.get 7 = some (.int .i64 0) → S.get 8 = some (.int .i64 1) → Q S := fun S g1 g2 g3 =>
      hQ S <| retQ_pure [.int .i64 0, .int .i64 0, .int .i64 1] (by simp only [resD, g1, g2, g3]; rfl) rfl ⟨by unfold respP; rw [if_pos hbad]; rfl, rfl⟩
    cases hr : rowP l with
    | false =>
      simp only [EV, EX, hP, reduceIte, Nat.reduceEqDiff, Nat.reduceAdd, Nat.reduceSub, binA, IN, MX, buildA, fillA, faddrA, load_ptr, load_fp, rowOf_eq, packA, TK.isAgg, cellsOf, cellD, boxA, allocA, storeA, putCells, Nat.reduceLeDiff, extA, unA, Bool.not_false, pickA]
      exact hret _ rfl rfl rfl
    | true =>
      simp only [EV, EX, hP, reduceIte, Nat.reduceEqDiff, Nat.reduceAdd, Nat.reduceSub, binA, IN, MX, buildA, fillA, faddrA, load_ptr, load_fp, rowOf_eq, packA, TK.isAgg, cellsOf, cellD, boxA, allocA, storeA, putCells, Nat.reduceLeDiff, extA, unA, Bool.not_true, pickA, len_fz ty24, tkRows_length]
      by_cases g1 : i < 0
      · simp only [g1, decide_true, EV, EX, hP, reduceIte, Nat.reduceEqDiff, Nat.reduceAdd, Nat.reduceSub, binA, IN, MX, buildA, fillA, faddrA, load_ptr, load_fp, rowOf_eq, packA, TK.isAgg, cellsOf, cellD, boxA, allocA, storeA, putCells, Nat.reduceLeDiff, extA, pickA]
        exact hret _ rfl rfl rfl
      · simp only [g1, decide_false, EV, EX, hP, reduceIte, Nat.reduceEqDiff, Nat.reduceAdd, Nat.reduceSub, binA, IN, MX, buildA, fillA, faddrA, load_ptr, load_fp, rowOf_eq, packA, TK.isAgg, cellsOf, cellD, boxA, allocA, storeA, putCells, Nat.reduceLeDiff, extA, pickA, len_fz ty24, tkRows_length]
        by_cases g2 : (l.length : Int) ≤ i
        · simp only [g2, decide_true, EV, EX, hP, reduceIte, Nat.reduceEqDiff, Nat.reduceAdd, Nat.reduceSub, binA, IN, MX, buildA, fillA, faddrA, load_ptr, load_fp, rowOf_eq, packA, TK.isAgg, cellsOf, cellD, boxA, allocA, storeA, putCells, Nat.reduceLeDiff, extA, pickA]
          exact hret _ rfl rfl rfl
        · simp only [g2, decide_false, EV, EX, hP, reduceIte, Nat.reduceEqDiff, Nat.reduceAdd, Nat.reduceSub, binA, IN, MX, buildA, fillA, faddrA, load_ptr, load_fp, rowOf_eq, packA, TK.isAgg, cellsOf, cellD, boxA, allocA, storeA, putCells, Nat.reduceLeDiff, extA, pickA]
          have g3 : apart < 1 := by
            rcases hbad with h | h | h | h
            · rw [hr] at h; cases h
            · omega
            · omega
            · exact h
          simp only [g3, decide_true, EV, EX, hP, reduceIte, Nat.reduceEqDiff, Nat.reduceAdd, Nat.reduceSub, binA, IN, MX, buildA, fillA, faddrA, load_ptr, load_fp, rowOf_eq, packA, TK.isAgg, cellsOf, cellD, boxA, allocA, storeA, putCells, Nat.reduceLeDiff, extA, pickA]
          exact hret _ rfl rfl rfl
  · have hr : rowP l = true := by
      cases h : rowP l with
      | true => rfl
      | false => exact absurd (Or.inl h) hbad
    have g1 : ¬ i < 0 := fun h => hbad (.inr (.inl h))
    have g2 : ¬ (l.length : Int) ≤ i := fun h => hbad (.inr (.inr (.inl h)))
    have g3 : ¬ apart < 1 := fun h => hbad (.inr (.inr (.inr h)))
    unfold respP at hQ
    rw [if_neg hbad] at hQ
    obtain ⟨m, rfl⟩ : ∃ m : Nat, i = (m : Int) := ⟨i.toNat, by omega⟩
    rw [Int.toNat_natCast] at hQ
    have hm : m < l.length := by omega
    have hb : (0 : Int) ≤ m ∧ (m : Int) < l.length := by omega
    have hmay := fun k hk => (rowP_may hr k hk).1
    have h6 : ∀ t : Tk, 6 ≤ (t.row).length := fun t => Nat.le_refl _
    have htk : ∀ t : Tk, (t.row).take 6 = t.row := fun t => rfl
    simp only [hr, EV, EX, hP, reduceIte, Nat.reduceEqDiff, Nat.reduceAdd, Nat.reduceSub, binA, IN, MX, buildA, fillA, faddrA, load_ptr, load_fp, rowOf_eq, packA, TK.isAgg, cellsOf, cellD, boxA, allocA, storeA, putCells, Nat.reduceLeDiff, extA, unA, Bool.not_true, pickA, len_fz ty24, tkRows_length, g1, g2, g3, decide_false, iaddr_fz, elSize_eq ty24 ty36, hb, tkRows_getD hm, ty36, h6, htk]
    refine callW_pure hP (s_costs l[m] (hf _ (List.getElem_mem hm))) (by simp [plainL, plain, Tk.row_plain]) (costsD_plain _) ?_
    have w1 : IntKind.i64.wrap ((m : Int) + 1) = m + 1 := wrap_i64 (by omega) (by omega)
    have hz1 : ((0 : Int) ≤ (m : Int) + 1) = True := by simp; omega
    have hz2 : ((m : Int) + 1).toNat = m + 1 := by omega
    have hz3 : (m + 1 ≤ l.length) = True := by simp; omega
    have hrows : ∀ k, (tkRows l).take k = tkRows (l.take k) := fun k => by simp [tkRows, List.map_take]
    simp only [EV, EX, hP, reduceIte, Nat.reduceEqDiff, Nat.reduceAdd, Nat.reduceSub, binA, IN, MX, buildA, fillA, faddrA, load_ptr, load_fp, rowOf_eq, packA, TK.isAgg, cellsOf, cellD, boxA, allocA, storeA, putCells, Nat.reduceLeDiff, extA, costsD, extA, w1, sliceA, elSize_eq ty24 ty36, bnd, hz1, hz2, hz3, tkRows_length, if_true, Nat.zero_le, Nat.le_refl, Option.isSome_none, Bool.false_eq_true, false_implies, and_true, true_and, hrows, len_fz ty24]
    have hlt1 : (l.take (m + 1)).length = m + 1 := by rw [List.length_take]; omega
    have hlt0 : (l.take m).length = m := by rw [List.length_take]; omega
    have ec : l[m] = tkAt l m := (tkAt_get hm).symm
    have hput : ∀ (t : Tk) (a b c d e f : DV), putCells [a, b, c, d, e, f] 0 t.row = t.row := fun _ _ _ _ _ _ _ => rfl
    have hlen6 : ∀ t : Tk, (t.row).length = 6 := fun _ => rfl
    have hcell : ∀ t : Tk, t.row.all cellD = true := fun _ => rfl
    have hfit : ∀ k, k < l.length → (tkAt l k).fit := fun k hk => by rw [tkAt_get hk]; exact hf _ (List.getElem_mem hk)
    simp only [hlt1, ec]
    obtain ⟨a1, a2, a3, a4, a5, a6, a7, a8, a9⟩ := costsT_small (hmay m hm)
    have hB := byOf_small l m
    refine LoopW.by (fun k => ⟨[(56, some (.int .i64 (k : Nat))), (55, some (.int .i64 (m + 1 : Nat))), (54, some (.fz 6 (tkRows (l.take (m + 1))))), (12, some (.int .i64 (lostUpto l k))), (9, some (.int .i64 (costsT (tkAt l m)).1)), (7, some (.int .i64 0)), (0, some (.fz 6 (tkRows l))), (1, some (.int .i64 m)), (2, some (.int .i64 apart))], [], 0⟩) (fun k => k ≤ m + 1) (fun k => m + 1 - k) 0 (Nat.zero_le _) ?_ ?_
    · refine Sub.pl 0 hN (Nat.zero_le _) (Nat.zero_le _) ?_
      simp only [plT, EV, EX, hP, reduceIte, Nat.reduceEqDiff, Nat.reduceAdd, Nat.reduceSub, plain, tkRows_plain, and_true, true_and]
      exact ⟨rfl, rfl⟩
    · intro k hk N hN'
      simp only [EV, EX, hP, reduceIte, Nat.reduceEqDiff, Nat.reduceAdd, Nat.reduceSub, binA, IN]
      refine condS_d (fun h => ?_) (fun h => ?_)
      · have hk2 : k < m + 1 := by omega
        have hbk : (0 : Int) ≤ k ∧ (k : Int) < ((m + 1 : Nat) : Int) := by omega
        have w2 : IntKind.i64.wrap ((k : Int) + 1) = k + 1 := wrap_i64 (by omega) (by omega)
        simp only [EV, EX, hP, reduceIte, Nat.reduceEqDiff, Nat.reduceAdd, Nat.reduceSub, binA, IN, MX, buildA, fillA, faddrA, load_ptr, load_fp, rowOf_eq, packA, TK.isAgg, cellsOf, cellD, boxA, allocA, storeA, putCells, Nat.reduceLeDiff, extA, iaddr_fz, elSize_eq ty24 ty36, tkRows_length, hlt1, hbk, tkRows_take hk2 (show m + 1 ≤ l.length by omega), ty36, h6, htk, hput, hlen6, hcell, cells_agg]
        refine callW_pure hP (s_costs (tkAt l k) (hfit k (by omega))) (by simp [plainL, plain, Tk.row_plain]) (costsD_plain _) ?_
        simp only [EV, EX, hP, reduceIte, Nat.reduceEqDiff, Nat.reduceAdd, Nat.reduceSub, binA, IN, MX, buildA, fillA, faddrA, load_ptr, load_fp, rowOf_eq, packA, TK.isAgg, cellsOf, cellD, boxA, allocA, storeA, putCells, Nat.reduceLeDiff, extA, costsD, extA, maxA, w2]
        refine hN' _ (k + 1) hk2 (by omega) (Sub.pl 0 hN (Nat.zero_le _) (Nat.zero_le _) ?_)
        have hmx : (if (costsT (tkAt l k)).2.1 > lostUpto l k then (costsT (tkAt l k)).2.1 else lostUpto l k) = lostUpto l (k + 1) := by simp only [lostUpto]; omega
        simp only [plT, EV, EX, hP, reduceIte, Nat.reduceEqDiff, Nat.reduceAdd, Nat.reduceSub, plain, tkRows_plain, and_true, true_and, hmx]
        rfl
      · have hk2 : k = m + 1 := by omega
        subst hk2
        have hL := lostUpto_small hmay (m + 1) (by omega)
        simp only [EV, EX, hP, reduceIte, Nat.reduceEqDiff, Nat.reduceAdd, Nat.reduceSub, binA, IN, MX, buildA, fillA, faddrA, load_ptr, load_fp, rowOf_eq, packA, TK.isAgg, cellsOf, cellD, boxA, allocA, storeA, putCells, Nat.reduceLeDiff, extA, ty68, ty67, fillA, cells_int, List.length_cons, List.length_nil, Option.map_some, cells_agg]
        refine callW_pure hP (s_by l hl hf m) (by simp [plainL, plain, tkRows_plain]) rfl ?_
        simp only [EV, EX, hP, reduceIte, Nat.reduceEqDiff, Nat.reduceAdd, Nat.reduceSub, binA, IN, MX, buildA, fillA, faddrA, load_ptr, load_fp, rowOf_eq, packA, TK.isAgg, cellsOf, cellD, boxA, allocA, storeA, putCells, Nat.reduceLeDiff, extA]
        generalize hc0 : (costsT (tkAt l m)).1 = c0 at *
        have hadd0 := call_add (c0, false) 1 (byOf l m) (by unfold i64r; simp only; omega) (by unfold i64r; omega) (by unfold i64r; omega)
        rw [addS_exact (by omega) (by omega) (by omega) (by omega), Int.one_mul] at hadd0
        rw [← hP] at hadd0
        refine callW_of (hadd0 48 _ _ rfl) ?_
        rintro d U ⟨rfl, rfl⟩
        simp only [EV, EX, hP, reduceIte, Nat.reduceEqDiff, Nat.reduceAdd, Nat.reduceSub, binA, IN, MX, buildA, fillA, faddrA, load_ptr, load_fp, rowOf_eq, packA, TK.isAgg, cellsOf, cellD, boxA, allocA, storeA, putCells, Nat.reduceLeDiff, extA, ty68, ty2]
        have hf0 : ∀ r, rhs l m apart r = c0 + byOf l m + upI r apart * lostUpto l (m + 1) + sumUpto l r m := fun r => by unfold rhs; rw [hc0]
        have hfm : ∀ r s, 0 ≤ r → r ≤ s → rhs l m apart r ≤ rhs l m apart s := fun r s h1 h2 => rhs_mono hmay hm (by omega) h1 h2
        have hfb : ∀ r, 0 ≤ r → c0 + byOf l m ≤ rhs l m apart r := fun r h1 => by rw [← hc0]; exact rhs_base hmay hm (by omega) h1
        unfold respOf at hQ
        rw [hc0] at hQ
        refine LoopW.by (fun (x : Int × Nat × Nat) => ⟨[(6, some (.int .i64 x.1)), (7, some (.int .i64 (x.2.1 : Nat))), (12, some (.int .i64 (lostUpto l (m + 1)))), (18, some (.ptr 0 0 0)), (0, some (.fz 6 (tkRows l))), (1, some (.int .i64 m)), (2, some (.int .i64 apart))], [(0, some (.rows 2 [[.int .i64 (c0 + byOf l m), .bool false]]))], 16⟩)
          (fun x => 0 ≤ x.1 ∧ x.1 ≤ 20000 ∧ x.1 ≤ rhs l m apart x.1 ∧ respIter (rhs l m apart) (tkAt l m).fin 20000 (c0 + byOf l m) 1 = respIter (rhs l m apart) (tkAt l m).fin x.2.2 x.1 (x.2.1 + 1) ∧ ((tkAt l m).fin + 1 - x.1).toNat + 1 ≤ x.2.2 ∧ x.2.1 + x.2.2 ≤ 20000)
          (fun x => x.2.2) (c0 + byOf l m, 0, 20000) ⟨by simp only; omega, by simp only; omega, hfb _ (by omega), rfl, by simp only; omega, by simp⟩ ?_ ?_
        · exact Sub.tell ⟨0, [(48, 0)], [], []⟩ (hq 0) rfl ⟨⟨_, rfl, .same _ rfl⟩, ⟨_, rfl, .same _ rfl⟩, ⟨_, rfl, .same _ rfl⟩, ⟨_, rfl, .ptr 48 0 0 0 rfl⟩, ⟨_, rfl, .same _ (by simp only [plain, tkRows_plain])⟩, ⟨_, rfl, .same _ rfl⟩, ⟨_, rfl, .same _ rfl⟩, trivial⟩ ⟨.inl ⟨48, _, rfl, by simp, rfl, lowB_same rfl⟩, trivial⟩
        · rintro ⟨r, n, fu⟩ ⟨hr0, hr1, hr2, hspec, hfu, hnf⟩ N2 hN2
          simp only at hr0 hr1 hr2 hspec hfu hnf hN2
          rw [hspec] at hQ
          obtain ⟨fu, rfl⟩ : ∃ f, fu = f + 1 := ⟨fu - 1, by omega⟩
          have w3 : IntKind.i64.wrap ((n : Int) + 1) = ((n + 1 : Nat) : Int) := by rw [wrap_i64 (by omega) (by omega)]; omega
          have hua := upI_nonneg hr0 (show 1 ≤ apart by omega)
          have hub := upI_le hr0 (show 1 ≤ apart by omega)
          have hul0 := Int.mul_nonneg hua hL.1
          have hul1 : upI r apart * lostUpto l (m + 1) ≤ 20000 * 9600 := Int.mul_le_mul (by omega) hL.2 hL.1 (by omega)
          simp only [EV, EX, hP, reduceIte, Nat.reduceEqDiff, Nat.reduceAdd, Nat.reduceSub, binA, IN, MX, buildA, fillA, faddrA, load_ptr, load_fp, rowOf_eq, packA, TK.isAgg, cellsOf, cellD, boxA, allocA, storeA, putCells, Nat.reduceLeDiff, extA, ty68, ty2, cells_agg, w3]
          refine callW_pure hP (s_often r apart (by unfold i64r; omega) hap) rfl rfl ?_
          simp only [EV, EX, hP, reduceIte, Nat.reduceEqDiff, Nat.reduceAdd, Nat.reduceSub, binA, IN, MX, buildA, fillA, faddrA, load_ptr, load_fp, rowOf_eq, packA, TK.isAgg, cellsOf, cellD, boxA, allocA, storeA, putCells, Nat.reduceLeDiff, extA]
          have hadd1 := call_add (c0 + byOf l m, false) (upI r apart) (lostUpto l (m + 1)) (by unfold i64r; simp only; omega) (by unfold i64r; omega) (by unfold i64r; omega)
          rw [addS_exact (by omega) (by omega) (by omega) (by omega)] at hadd1
          rw [← hP] at hadd1
          refine callW_of (hadd1 80 _ _ rfl) ?_
          rintro d U ⟨rfl, rfl⟩
          have hz4 : ((0 : Int) ≤ (m : Int)) = True := by simp
          have hz5 : (m ≤ l.length) = True := by simp; omega
          simp only [EV, EX, hP, reduceIte, Nat.reduceEqDiff, Nat.reduceAdd, Nat.reduceSub, binA, IN, MX, buildA, fillA, faddrA, load_ptr, load_fp, rowOf_eq, packA, TK.isAgg, cellsOf, cellD, boxA, allocA, storeA, putCells, Nat.reduceLeDiff, extA, sliceA, elSize_eq ty24 ty36, bnd, hz4, hz5, tkRows_length, if_true, Nat.zero_le, Nat.le_refl, Option.isSome_none, Bool.false_eq_true, false_implies, and_true, true_and, List.drop_zero, hrows, len_fz ty24, hlt0]
          refine LoopW.by (fun k => ⟨[(90, some (.int .i64 (k : Nat))), (89, some (.int .i64 m)), (88, some (.fz 6 (tkRows (l.take m)))), (6, some (.int .i64 r)), (7, some (.int .i64 (n + 1 : Nat))), (19, some (.ptr 1 0 0)), (12, some (.int .i64 (lostUpto l (m + 1)))), (18, some (.ptr 0 0 0)), (0, some (.fz 6 (tkRows l))), (1, some (.int .i64 m)), (2, some (.int .i64 apart))],
            [(0, some (.rows 2 [[.int .i64 (c0 + byOf l m), .bool false]])), (1, some (.rows 2 [[.int .i64 (c0 + byOf l m + upI r apart * lostUpto l (m + 1) + sumUpto l r k), .bool false]]))], 32⟩) (fun k => k ≤ m) (fun k => m - k) 0 (Nat.zero_le _) ?_ ?_
          · refine Sub.tell ⟨1, [(80, 1)], [], []⟩ (hq 1) rfl ⟨⟨_, rfl, .same _ rfl⟩, ⟨_, rfl, .same _ rfl⟩, ⟨_, rfl, .same _ (by simp only [plain, tkRows_plain])⟩, ⟨_, rfl, .same _ rfl⟩, ⟨_, rfl, .same _ rfl⟩, ⟨_, rfl, .ptr 80 1 0 0 rfl⟩, ⟨_, rfl, .same _ rfl⟩, ⟨_, rfl, .ptr 0 0 0 0 rfl⟩, ⟨_, rfl, .same _ (by simp only [plain, tkRows_plain])⟩, ⟨_, rfl, .same _ rfl⟩, ⟨_, rfl, .same _ rfl⟩, trivial⟩
              ⟨.inl ⟨0, _, rfl, by simp, rfl, lowB_same rfl⟩, .inl ⟨80, _, rfl, by simp, rfl, ?_⟩, trivial⟩
            rw [show sumUpto l r 0 = 0 from rfl, Int.add_zero]
            exact lowB_same rfl
          · intro k hk N3 hN3
            have hS := sumUpto_small hmay hr0 k (by omega)
            have hSb : (k : Int) * (r * 9600) ≤ 1000 * (20000 * 9600) := Int.mul_le_mul (by omega) (Int.mul_le_mul hr1 (Int.le_refl _) (by omega) (by omega)) (Int.mul_nonneg hr0 (by omega)) (by omega)
            simp only [EV, EX, hP, reduceIte, Nat.reduceEqDiff, Nat.reduceAdd, Nat.reduceSub, binA, IN]
            refine condS_d (fun h5 => ?_) (fun h5 => ?_)
            · have hk2 : k < m := by omega
              have hbk : (0 : Int) ≤ k ∧ (k : Int) < (m : Int) := by omega
              have w4 : IntKind.i64.wrap ((k : Int) + 1) = ((k + 1 : Nat) : Int) := by rw [wrap_i64 (by omega) (by omega)]; omega
              obtain ⟨b1, b2, b3, b4, b5, b6, b7, b8, b9⟩ := costsT_small (hmay k (by omega))
              have hp : 1 ≤ (tkAt l k).period := by omega
              have huk := upI_nonneg hr0 hp
              have huk2 := upI_le hr0 hp
              have hsum : sumUpto l r (k + 1) = sumUpto l r k + upI r (tkAt l k).period * (costsT (tkAt l k)).1 := rfl
              have hS2 := sumUpto_small hmay hr0 (k + 1) (by omega)
              have hSb2 : ((k + 1 : Nat) : Int) * (r * 9600) ≤ 1000 * (20000 * 9600) := Int.mul_le_mul (by omega) (Int.mul_le_mul hr1 (Int.le_refl _) (by omega) (by omega)) (Int.mul_nonneg hr0 (by omega)) (by omega)
              have hpd : ∀ t : Tk, faddrA (some ⟨.struct [(0, 1), (1, 1), (2, 1), (3, 1), (4, 1), (5, 1)] none, 6, 96, true, .agg [.int .i64 0, .int .i64 0, .int .i64 0, .nilsl, .nilsl, .nilsl]⟩) 1 (some (.fp t.row)) = some (.fp (t.row.drop 1)) := fun _ => rfl
              simp only [EV, EX, hP, reduceIte, Nat.reduceEqDiff, Nat.reduceAdd, Nat.reduceSub, binA, IN, MX, buildA, fillA, faddrA, load_ptr, load_fp, rowOf_eq, packA, TK.isAgg, cellsOf, cellD, boxA, allocA, storeA, putCells, Nat.reduceLeDiff, extA, iaddr_fz, elSize_eq ty24 ty36, tkRows_length, hlt0, hbk, tkRows_take hk2 (show m ≤ l.length by omega), ty36, h6, htk, hput, hlen6, hcell, cells_agg]
              refine callW_pure hP (s_costs (tkAt l k) (hfit k (by omega))) (by simp [plainL, plain, Tk.row_plain]) (costsD_plain _) ?_
              have hrow : (tkAt l k).row.drop 1 = [.int .i64 (tkAt l k).period, .int .i64 (tkAt l k).fin, .fz 4 (instRows (tkAt l k).main), .fz 4 (instRows (tkAt l k).way), .fz 4 (instRows (tkAt l k).opt)] := rfl
              simp only [EV, EX, hP, reduceIte, Nat.reduceEqDiff, Nat.reduceAdd, Nat.reduceSub, binA, IN, MX, buildA, fillA, faddrA, load_ptr, load_fp, rowOf_eq, packA, TK.isAgg, cellsOf, cellD, boxA, allocA, storeA, putCells, Nat.reduceLeDiff, extA, costsD, extA, ty36, hrow, ty2]
              refine callW_pure hP (s_often r (tkAt l k).period (by unfold i64r; omega) (by unfold i64r; omega)) rfl rfl ?_
              simp only [EV, EX, hP, reduceIte, Nat.reduceEqDiff, Nat.reduceAdd, Nat.reduceSub, binA, IN, MX, buildA, fillA, faddrA, load_ptr, load_fp, rowOf_eq, packA, TK.isAgg, cellsOf, cellD, boxA, allocA, storeA, putCells, Nat.reduceLeDiff, extA]
              have hadd2 := call_add (c0 + byOf l m + upI r apart * lostUpto l (m + 1) + sumUpto l r k, false) (upI r (tkAt l k).period) (costsT (tkAt l k)).1 (by unfold i64r; simp only; omega) (by unfold i64r; omega) (by unfold i64r; omega)
              rw [addS_exact (by omega) (by omega) (by omega) (by omega)] at hadd2
              rw [← hP] at hadd2
              refine callW_of (hadd2 1 _ _ rfl) ?_
              rintro d U ⟨rfl, rfl⟩
              simp only [EV, EX, hP, reduceIte, Nat.reduceEqDiff, Nat.reduceAdd, Nat.reduceSub, binA, IN, MX, buildA, fillA, faddrA, load_ptr, load_fp, rowOf_eq, packA, TK.isAgg, cellsOf, cellD, boxA, allocA, storeA, putCells, Nat.reduceLeDiff, extA, w4]
              refine hN3 _ (k + 1) hk2 (by omega) (Sub.tell ⟨2, [], [], []⟩ (hq 2) rfl ⟨⟨_, rfl, .same _ rfl⟩, ⟨_, rfl, .same _ rfl⟩, ⟨_, rfl, .same _ (by simp only [plain, tkRows_plain])⟩, ⟨_, rfl, .same _ rfl⟩, ⟨_, rfl, .same _ rfl⟩, ⟨_, rfl, .ptr 1 1 0 0 rfl⟩, ⟨_, rfl, .same _ rfl⟩, ⟨_, rfl, .ptr 0 0 0 0 rfl⟩, ⟨_, rfl, .same _ (by simp only [plain, tkRows_plain])⟩, ⟨_, rfl, .same _ rfl⟩, ⟨_, rfl, .same _ rfl⟩, trivial⟩
                ⟨.inl ⟨0, _, rfl, by simp, rfl, lowB_same rfl⟩, .inl ⟨1, _, rfl, by simp, rfl, ?_⟩, trivial⟩)
              rw [hsum, ← Int.add_assoc]
              exact lowB_same rfl
            · have hk2 : k = m := by omega
              subst hk2
              have hrow : (tkAt l k).row.drop 2 = [.int .i64 (tkAt l k).fin, .fz 4 (instRows (tkAt l k).main), .fz 4 (instRows (tkAt l k).way), .fz 4 (instRows (tkAt l k).opt)] := rfl
              rw [← hf0 r]
              simp only [respIter] at hQ
              simp only [EV, EX, hP, reduceIte, Nat.reduceEqDiff, Nat.reduceAdd, Nat.reduceSub, binA, IN, DR, DX, Nat.reduceMul, keysU, MX, buildA, fillA, faddrA, load_ptr, load_fp, rowOf_eq, packA, TK.isAgg, cellsOf, cellD, boxA, allocA, storeA, putCells, Nat.reduceLeDiff, extA, ty68, ty4, ty2, iaddr_fz, elSize_eq ty24 ty36, tkRows_length, hb, tkRows_getD hm, ec, ty36, hrow, drF_eq]
              refine ⟨by kernel_rfl, ?_⟩
              try simp only [EV, EX, hP, reduceIte, Nat.reduceEqDiff, Nat.reduceAdd, Nat.reduceSub]
              refine condS_d (fun h7 => ?_) (fun h7 => ?_)
              · rw [if_pos h7] at hQ
                simp only [EV, EX, hP, reduceIte, Nat.reduceEqDiff, Nat.reduceAdd, Nat.reduceSub, binA, IN]
                exact hQ _ <| retQ_pure [.int .i64 0, .int .i64 0, .int .i64 14] rfl rfl ⟨rfl, rfl⟩
              · rw [if_neg h7] at hQ
                simp only [EV, EX, hP, reduceIte, Nat.reduceEqDiff, Nat.reduceAdd, Nat.reduceSub, binA, IN, MX, buildA, fillA, faddrA, load_ptr, load_fp, rowOf_eq, packA, TK.isAgg, cellsOf, cellD, boxA, allocA, storeA, putCells, Nat.reduceLeDiff, extA, ty68, ty2]
                refine condS_d (fun h8 => ?_) (fun h8 => ?_)
                · rw [if_pos h8] at hQ
                  simp only [EV, EX, hP, reduceIte, Nat.reduceEqDiff, Nat.reduceAdd, Nat.reduceSub, binA, IN]
                  exact hQ _ <| retQ_pure [.int .i64 r, .int .i64 ((n + 1 : Nat) : Int), .int .i64 0] rfl rfl ⟨rfl, rfl⟩
                · rw [if_neg h8] at hQ
                  simp only [EV, EX, hP, reduceIte, Nat.reduceEqDiff, Nat.reduceAdd, Nat.reduceSub, binA, IN, MX, buildA, fillA, faddrA, load_ptr, load_fp, rowOf_eq, packA, TK.isAgg, cellsOf, cellD, boxA, allocA, storeA, putCells, Nat.reduceLeDiff, extA, ty68, ty2]
                  have hspec2 : respIter (rhs l k apart) (tkAt l k).fin 20000 (c0 + byOf l k) 1 = respIter (rhs l k apart) (tkAt l k).fin fu (rhs l k apart r) ((n + 1 : Nat) + 1) := by
                    rw [hspec]
                    simp only [respIter]
                    rw [if_neg h7, if_neg h8]; rfl
                  refine hN2 _ (rhs l k apart r, n + 1, fu) ⟨by simp only; omega, by simp only; omega, hfm _ _ hr0 hr2, hspec2, by simp only; omega, by simp only; omega⟩ (by simp only; omega)
                    (Sub.tell ⟨1, [], [], []⟩ (hq 1) rfl ⟨⟨_, rfl, .same _ rfl⟩, ⟨_, rfl, .same _ rfl⟩, ⟨_, rfl, .same _ rfl⟩, ⟨_, rfl, .ptr 0 0 0 0 rfl⟩, ⟨_, rfl, .same _ (by simp only [plain, tkRows_plain])⟩, ⟨_, rfl, .same _ rfl⟩, ⟨_, rfl, .same _ rfl⟩, trivial⟩ ⟨.inl ⟨0, _, rfl, by simp, rfl, lowB_same rfl⟩, trivial⟩)
end Go.Fv
/- CONTRACTS: the document's held, times. -/
namespace Go.Fv
open Go.Proofs

def heldAt (l : List Inst) (ps : List Int) (i : Int) (k : Nat) : Bool := decide ((nth l k).op = 9) && decide ((k : Int) < i) && decide (i < ps.getD k 0)
def heldN (l : List Inst) (ps : List Int) (i : Int) (n : Nat) : Nat := ((List.range n).filter (heldAt l ps i)).length
theorem heldN_succ {l : List Inst} {ps : List Int} {i : Int} {n : Nat} : heldN l ps i (n + 1) = heldN l ps i n + if heldAt l ps i n = true then 1 else 0 := by
  unfold heldN
  rw [List.range_succ, List.filter_append, List.length_append]
  cases h : heldAt l ps i n <;> simp [h]
theorem heldN_le {l : List Inst} {ps : List Int} {i : Int} {n : Nat} : heldN l ps i n ≤ n := by
  unfold heldN
  have := List.length_filter_le (heldAt l ps i) (List.range n)
  rwa [List.length_range] at this

set_option maxRecDepth 100000 in
theorem s_held (l : List Inst) (hl : l.length ≤ 24) (ps : List Int) (hps : ps.length = l.length) (i : Int) : Pure Try.prog 84 [.fz 4 (instRows l), .fz 1 (intRows ps), .int .i64 i] (.int .i64 (heldN l ps i l.length : Nat)) := by
  refine Spec.walk ok84 fun C Q hP hN hQ => ?_
  unfold c84
  simp only [EV, EX, hP, reduceIte, Nat.reduceEqDiff, Nat.reduceAdd, Nat.reduceSub, binA, IN]
  refine LoopW.by (fun k => ⟨[(8, some (.int .i64 (k : Nat))), (7, some (.int .i64 (heldN l ps i k : Nat))), (0, some (.fz 4 (instRows l))), (1, some (.fz 1 (intRows ps))), (2, some (.int .i64 i))], [], 0⟩) (fun k => k ≤ l.length) (fun k => l.length - k) 0 (Nat.zero_le _) ?_ ?_
  · refine Sub.pl 0 hN (Nat.zero_le _) (Nat.zero_le _) ?_
    simp only [plT, EV, EX, hP, reduceIte, Nat.reduceEqDiff, Nat.reduceAdd, Nat.reduceSub, plain, instRows_plain, intRows_plain, and_true, true_and]
    exact ⟨rfl, rfl⟩
  · intro k hk N hN'
    simp only [EV, EX, hP, reduceIte, Nat.reduceEqDiff, Nat.reduceAdd, Nat.reduceSub, binA, IN, len_fz ty34, instRows_length]
    refine condS_d (fun h => ?_) (fun h => ?_)
    · have hk2 : k < l.length := by omega
      have hk3 : k < ps.length := by omega
      have hb : (0 : Int) ≤ k ∧ (k : Int) < l.length := by omega
      have hb2 : (0 : Int) ≤ k ∧ (k : Int) < ps.length := by omega
      have w1 : IntKind.i64.wrap ((k : Int) + 1) = ((k + 1 : Nat) : Int) := by rw [wrap_i64 (by omega) (by omega)]; omega
      have hle := heldN_le (l := l) (ps := ps) (i := i) (n := k)
      have w2 : IntKind.i64.wrap (((heldN l ps i k : Nat) : Int) + 1) = ((heldN l ps i k + 1 : Nat) : Int) := by rw [wrap_i64 (by omega) (by omega)]; omega
      have ep : ps.getD k 0 = ps[k] := by simp [List.getD_eq_getElem?_getD, hk3]
      have hnx : ∀ S : St, S.get 8 = some (.int .i64 ((k + 1 : Nat) : Int)) → S.get 7 = some (.int .i64 (heldN l ps i (k + 1) : Nat)) → S.get 0 = some (.fz 4 (instRows l)) → S.get 1 = some (.fz 1 (intRows ps)) → S.get 2 = some (.int .i64 i) → N S := by
        intro S g1 g2 g3 g4 g5
        refine hN' _ (k + 1) hk2 (by omega) (Sub.pl 0 hN (Nat.zero_le _) (Nat.zero_le _) ?_)
        simp only [plT, plain, instRows_plain, intRows_plain, and_true, true_and, g1, g2, g3, g4, g5]
      simp only [EV, EX, hP, reduceIte, Nat.reduceEqDiff, Nat.reduceAdd, Nat.reduceSub, binA, IN, MX, buildA, fillA, faddrA, load_ptr, load_fp, rowOf_eq, packA, TK.isAgg, cellsOf, cellD, boxA, allocA, storeA, putCells, Nat.reduceLeDiff, extA, iaddr_fz, elSize_eq ty34 ty60, instRows_length, hb, instRows_getD hk2, Inst.row, ty60, ty3]
      by_cases h9 : l[k].op = 9
      · by_cases hki : (k : Int) < i
        · by_cases hip : i < ps[k]
          · simp only [h9, hki, hip, decide_true, EV, EX, hP, reduceIte, Nat.reduceEqDiff, Nat.reduceAdd, Nat.reduceSub, binA, IN, MX, buildA, fillA, faddrA, load_ptr, load_fp, rowOf_eq, packA, TK.isAgg, cellsOf, cellD, boxA, allocA, storeA, putCells, Nat.reduceLeDiff, extA, pickA, iaddr_fz, elSize_eq ty94 ty3, intRows_length, hb2, intRows_getD hk3, ty3, w1, w2]
            exact hnx _ rfl (by rw [heldN_succ, if_pos (by simp [heldAt, nth_get hk2, h9, hki, hip, hk3])]; rfl) rfl rfl rfl
          · simp only [h9, hki, hip, decide_true, decide_false, EV, EX, hP, reduceIte, Nat.reduceEqDiff, Nat.reduceAdd, Nat.reduceSub, binA, IN, MX, buildA, fillA, faddrA, load_ptr, load_fp, rowOf_eq, packA, TK.isAgg, cellsOf, cellD, boxA, allocA, storeA, putCells, Nat.reduceLeDiff, extA, pickA, iaddr_fz, elSize_eq ty94 ty3, intRows_length, hb2, intRows_getD hk3, ty3, w1]
            exact hnx _ rfl (by rw [heldN_succ, if_neg (by unfold heldAt; rw [ep]; simp; omega)]; rfl) rfl rfl rfl
        · simp only [h9, hki, decide_true, decide_false, EV, EX, hP, reduceIte, Nat.reduceEqDiff, Nat.reduceAdd, Nat.reduceSub, binA, IN, MX, buildA, fillA, faddrA, load_ptr, load_fp, rowOf_eq, packA, TK.isAgg, cellsOf, cellD, boxA, allocA, storeA, putCells, Nat.reduceLeDiff, extA, pickA, w1]
          exact hnx _ rfl (by rw [heldN_succ, if_neg (by simp [heldAt, hki])]; rfl) rfl rfl rfl
      · simp only [h9, decide_false, EV, EX, hP, reduceIte, Nat.reduceEqDiff, Nat.reduceAdd, Nat.reduceSub, binA, IN, MX, buildA, fillA, faddrA, load_ptr, load_fp, rowOf_eq, packA, TK.isAgg, cellsOf, cellD, boxA, allocA, storeA, putCells, Nat.reduceLeDiff, extA, pickA, w1]
        exact hnx _ rfl (by rw [heldN_succ, if_neg (by simp [heldAt, nth_get hk2, h9])]; rfl) rfl rfl rfl
    · have hk2 : k = l.length := by omega
      subst hk2
      simp only [EV, EX, hP, reduceIte, Nat.reduceEqDiff, Nat.reduceAdd, Nat.reduceSub, binA, IN]
      exact hQ _ <| retQ_pure _ rfl rfl ⟨rfl, rfl⟩

theorem areasOf_body {l : List Inst} (hx : ∀ x ∈ l, x.may = true) {p : Area} (hp : p ∈ areasOf l) (hb : p.body = true) : 1 ≤ (nth l p.o.toNat).n ∧ (nth l p.o.toNat).n ≤ 20 := by
  unfold areasOf at hp
  obtain ⟨⟨x, i⟩, h1, h2⟩ := List.mem_flatMap.1 hp
  have h3 := List.mem_zipIdx h1
  have hi : i < l.length := by omega
  have hxi : x = l[i] := by simpa using h3.2.2
  have hm := hx l[i] (List.getElem_mem hi)
  simp only [areaAt] at h2
  split at h2
  · simp only [List.mem_singleton] at h2
    subst h2; cases hb
  · split at h2
    · rename_i h8
      simp only [List.mem_singleton] at h2
      subst h2
      simp only [Int.toNat_natCast]
      rw [nth_get hi]
      rw [← hxi] at hm ⊢
      simp [Inst.may, h8, btw] at hm; omega
    · cases h2

theorem tmR_take {l : List Inst} {ps : List Area} {k i : Nat} (h : k < ps.length) : tmR l (ps.take (k + 1)) i = if (ps[k].body && ps[k].has i) = true then tmR l (ps.take k) i * (nth l ps[k].o.toNat).n else tmR l (ps.take k) i := by
  unfold tmR
  rw [List.take_succ_eq_append_getElem h, List.foldl_append]; rfl
theorem cN_take {ps : List Area} {k i : Nat} : cN (ps.take k) i ≤ cN ps i := by
  unfold cN
  exact (List.Sublist.filter _ (List.take_sublist k ps)).length_le
theorem tmR_small {l : List Inst} (hx : ∀ x ∈ l, x.may = true) (hn : nestOk l = true) {i : Nat} (hi : i < l.length) : ∀ k, k ≤ (areasOf l).length → 1 ≤ tmR l ((areasOf l).take k) i ∧ tmR l ((areasOf l).take k) i ≤ 20 ^ cN ((areasOf l).take k) i ∧ tmR l ((areasOf l).take k) i ≤ 400
  | 0, _ => by simp [tmR, cN]
  | k + 1, hk => by
    obtain ⟨h1, h2, h3⟩ := tmR_small hx hn hi k (by omega)
    have hc : cN ((areasOf l).take (k + 1)) i ≤ 2 := Nat.le_trans cN_take (nest_cN hn hi)
    rw [tmR_take (show k < (areasOf l).length by omega)]
    split
    · rename_i hb
      have hbo : ((areasOf l)[k]'(by omega)).body = true := by simp only [Bool.and_eq_true] at hb; exact hb.1
      have hn2 := areasOf_body hx (List.getElem_mem (show k < (areasOf l).length by omega)) hbo
      have hcN : cN ((areasOf l).take (k + 1)) i = cN ((areasOf l).take k) i + 1 := by
        unfold cN
        rw [List.take_succ_eq_append_getElem (show k < (areasOf l).length by omega), List.filter_append, List.length_append]
        simp only [List.filter_cons, List.filter_nil, hb, if_true, List.length_singleton]
      rw [hcN] at hc ⊢
      generalize cN ((areasOf l).take k) i = c at *
      have hp : tmR l ((areasOf l).take k) i * (nth l ((areasOf l)[k]'(by omega)).o.toNat).n ≤ 20 ^ c * 20 := Int.mul_le_mul h2 hn2.2 (by omega) (by have := Int.pow_nonneg (n := 20) (m := c) (by omega); omega)
      have hp1 := Int.mul_le_mul h1 hn2.1 (by omega) (by omega)
      have hpow : (20 : Int) ^ (c + 1) ≤ 400 := by
        have : c = 0 ∨ c = 1 := by omega
        rcases this with rfl | rfl <;> decide
      rw [Int.pow_succ] at hpow ⊢
      exact ⟨by omega, hp, by omega⟩
    · refine ⟨h1, ?_, h3⟩
      rename_i hb
      have hcN : cN ((areasOf l).take (k + 1)) i = cN ((areasOf l).take k) i := by
        unfold cN
        rw [List.take_succ_eq_append_getElem (show k < (areasOf l).length by omega), List.filter_append, List.length_append]
        have hb2 : (((areasOf l)[k]'(by omega)).body && ((areasOf l)[k]'(by omega)).has i) = false := by simpa using hb
        simp only [List.filter_cons, List.filter_nil, hb2, Bool.false_eq_true, if_false, List.length_nil, Nat.add_zero]
      rw [hcN]; exact h2

def timesR (l : List Inst) : List Int := (List.range l.length).map (tmR l (areasOf l))
/-- The numbers, when i of them are done, and the next one up to the k'th piece. -/
def timesAt (l : List Inst) (i k : Nat) : List Int := (List.range l.length).map fun j => if j < i then tmR l (areasOf l) j else if j = i then tmR l ((areasOf l).take k) j else 0
theorem timesAt_length {l : List Inst} {i k : Nat} : (timesAt l i k).length = l.length := by simp [timesAt]
theorem timesAt_get {l : List Inst} {i k : Nat} (h : i < l.length) : (timesAt l i k)[i]'(by rw [timesAt_length]; exact h) = tmR l ((areasOf l).take k) i := by simp [timesAt]
theorem timesAt_next {l : List Inst} {i : Nat} : timesAt l i (areasOf l).length = (List.range l.length).map fun j => if j < i + 1 then tmR l (areasOf l) j else 0 := by
  apply List.map_congr_left
  intro j _
  rw [List.take_length]
  by_cases h1 : j < i
  · rw [if_pos h1, if_pos (by omega)]
  · rw [if_neg h1]
    by_cases h2 : j = i
    · rw [if_pos h2, if_pos (by omega)]
    · rw [if_neg h2, if_neg (by omega)]
theorem timesAt_set {l : List Inst} {i k k' : Nat} : (timesAt l i k).set i (tmR l ((areasOf l).take k') i) = timesAt l i k' := by
  apply List.ext_getElem (by simp [timesAt])
  intro j h1 h2
  simp only [timesAt, List.getElem_set, List.getElem_map, List.getElem_range]
  by_cases e : i = j
  · subst e; simp
  · rw [if_neg e]
    have : ¬ j = i := fun x => e x.symm
    simp only [this, if_false]
def timesTo (l : List Inst) (i : Nat) : List Int := (List.range l.length).map fun j => if j < i then tmR l (areasOf l) j else 0
theorem timesTo_zero {l : List Inst} : timesTo l 0 = List.replicate l.length 0 := by
  apply List.ext_getElem (by simp [timesTo])
  intro j h1 h2
  simp [timesTo]
theorem timesTo_length {l : List Inst} {i : Nat} : (timesTo l i).length = l.length := by simp [timesTo]
theorem timesTo_set {l : List Inst} {i : Nat} : (timesTo l i).set i 1 = timesAt l i 0 := by
  apply List.ext_getElem (by simp [timesTo, timesAt])
  intro j h1 h2
  simp only [timesTo, timesAt, List.getElem_set, List.getElem_map, List.getElem_range]
  by_cases e : i = j
  · subst e; simp [tmR]
  · rw [if_neg e]
    have : ¬ j = i := fun x => e x.symm
    simp only [this, if_false]

set_option maxRecDepth 100000 in
theorem s_rTms (l : List Inst) (hl : l.length ≤ 24) (hx : ∀ x ∈ l, x.may = true) (hn : nestOk l = true) : Pure Try.prog 60 [.fz 4 (instRows l)] (.fz 1 (intRows (timesR l))) := by
  have hps := Nat.le_trans (areasOf_length l) hl
  have har := s_areas l hl hx
  refine Spec.walk ok60 fun C Q hP hN hQ => ?_
  unfold c60
  have hq : ∀ q, ∀ n, C.N0 n → n < q := fun q n hn => absurd (hN n hn) (by omega)
  have hc : (0 : Int) ≤ l.length ∧ (l.length : Int) * ((8 : Nat) : Int) ≤ 281474976710656 := by omega
  simp only [EV, EX, hP, reduceIte, Nat.reduceEqDiff, Nat.reduceAdd, Nat.reduceSub, binA, IN, len_fz ty34, instRows_length, mkslA, elTI_eq ty26, ty2, true_and, and_self, hc, Int.toNat_natCast, cellsOf, intRows_replicate]
  refine callW_pure hP har (by simp [plainL, plain, instRows_plain]) (by simp [plain, areaRows_plain]) ?_
  simp only [EV, EX, hP, reduceIte, Nat.reduceEqDiff, Nat.reduceAdd, Nat.reduceSub, binA, IN]
  refine LoopW.by (fun i => ⟨[(5, some (.int .i64 (i : Nat))), (3, some (.sl 1 0 0 l.length)), (4, some (.fz 4 (areaRows (areasOf l)))), (0, some (.fz 4 (instRows l)))], [(0, some (.rows 1 (intRows (timesTo l i))))], 16⟩) (fun i => i ≤ l.length) (fun i => l.length - i) 0 (Nat.zero_le _) ?_ ?_
  · refine Sub.tell ⟨0, [(48, 0)], [], []⟩ (hq 0) rfl ⟨⟨_, rfl, .same _ rfl⟩, ⟨_, rfl, .sl 1 48 0 0 _ rfl⟩, ⟨_, rfl, .same _ (by simp only [plain, areaRows_plain])⟩, ⟨_, rfl, .same _ (by simp only [plain, instRows_plain])⟩, trivial⟩ ⟨.inl ⟨48, _, rfl, by simp, rfl, ?_⟩, trivial⟩
    rw [timesTo_zero]; exact lowB_same (intRows_plain _)
  · intro i hi N hN'
    simp only [EV, EX, hP, reduceIte, Nat.reduceEqDiff, Nat.reduceAdd, Nat.reduceSub, binA, IN, len_fz ty34, instRows_length]
    refine condS_d (fun h => ?_) (fun h => ?_)
    · have hi2 : i < l.length := by omega
      have hb : (0 : Int) ≤ i ∧ (i : Int) < l.length := by omega
      have w1 : IntKind.i64.wrap ((i : Int) + 1) = ((i + 1 : Nat) : Int) := by rw [wrap_i64 (by omega) (by omega)]; omega
      have hg : (intRows (timesTo l i))[i]? = some [.int .i64 ((timesTo l i)[i]'(by rw [timesTo_length]; exact hi2))] := intRows_get (by rw [timesTo_length]; exact hi2)
      simp only [EV, EX, hP, reduceIte, Nat.reduceEqDiff, Nat.reduceAdd, Nat.reduceSub, binA, IN, MX, buildA, fillA, faddrA, load_ptr, load_fp, rowOf_eq, packA, TK.isAgg, cellsOf, cellD, boxA, allocA, storeA, putCells, Nat.reduceLeDiff, extA, iaddr_sl, elSize_eq ty26 ty2, hb, ty2, hg, cells_int, intRows_set, timesTo_set]
      refine LoopW.by (fun k => ⟨[(6, some (.int .i64 (k : Nat))), (5, some (.int .i64 (i : Nat))), (3, some (.sl 1 0 0 l.length)), (4, some (.fz 4 (areaRows (areasOf l)))), (0, some (.fz 4 (instRows l)))], [(0, some (.rows 1 (intRows (timesAt l i k))))], 16⟩) (fun k => k ≤ (areasOf l).length) (fun k => (areasOf l).length - k) 0 (Nat.zero_le _) ?_ ?_
      · exact Sub.tell ⟨1, [], [], []⟩ (hq 1) rfl ⟨⟨_, rfl, .same _ rfl⟩, ⟨_, rfl, .same _ rfl⟩, ⟨_, rfl, .sl 1 0 0 0 _ rfl⟩, ⟨_, rfl, .same _ (by simp only [plain, areaRows_plain])⟩, ⟨_, rfl, .same _ (by simp only [plain, instRows_plain])⟩, trivial⟩ ⟨.inl ⟨0, _, rfl, by simp, rfl, lowB_same (intRows_plain _)⟩, trivial⟩
      · intro k hk N2 hN2
        simp only [EV, EX, hP, reduceIte, Nat.reduceEqDiff, Nat.reduceAdd, Nat.reduceSub, binA, IN, len_fz ty111, areaRows_length]
        refine condS_d (fun h2 => ?_) (fun h2 => ?_)
        · have hk2 : k < (areasOf l).length := by omega
          have hbk : (0 : Int) ≤ k ∧ (k : Int) < (areasOf l).length := by omega
          have w2 : IntKind.i64.wrap ((k : Int) + 1) = ((k + 1 : Nat) : Int) := by rw [wrap_i64 (by omega) (by omega)]; omega
          have hstep := tmR_take (l := l) (i := i) hk2
          have hsm := tmR_small hx hn hi2 (k + 1) (by omega)
          have hnx : ∀ (S : St), S.get 6 = some (.int .i64 ((k + 1 : Nat) : Int)) → S.get 5 = some (.int .i64 i) → S.get 3 = some (.sl 1 0 0 l.length) → S.get 4 = some (.fz 4 (areaRows (areasOf l))) → S.get 0 = some (.fz 4 (instRows l)) → S.blk 0 = some (.rows 1 (intRows (timesAt l i (k + 1)))) → (Nm.mk 1 [] [] []).ok S.nx 16 = true → N2 S := by
            intro S g1 g2 g3 g4 g5 b0 hok
            exact hN2 _ (k + 1) hk2 (by omega) (Sub.tell ⟨1, [], [], []⟩ (hq 1) hok ⟨⟨_, g1, .same _ rfl⟩, ⟨_, g2, .same _ rfl⟩, ⟨_, g3, .sl 1 0 0 0 _ rfl⟩, ⟨_, g4, .same _ (by simp only [plain, areaRows_plain])⟩, ⟨_, g5, .same _ (by simp only [plain, instRows_plain])⟩, trivial⟩ ⟨.inl ⟨0, _, rfl, by simp, b0, lowB_same (intRows_plain _)⟩, trivial⟩)
          obtain ⟨o, ho, hpo, _⟩ := areasOf_mem hx (List.getElem_mem hk2)
          have hskip : (((areasOf l)[k].body && (areasOf l)[k].has i) = false) → timesAt l i k = timesAt l i (k + 1) := by
            intro hf
            rw [hf] at hstep
            simp only [Bool.false_eq_true, if_false] at hstep
            rw [← timesAt_set (k := k) (k' := k + 1), hstep, timesAt_set]
          have hhas := s_area_has (areasOf l)[k] i
          generalize hA : (areasOf l)[k] = A at *
          have hrow : (areaRows (areasOf l)).getD k [] = A.row := by rw [areaRows_getD hk2, hA]
          simp only [EV, EX, hP, reduceIte, Nat.reduceEqDiff, Nat.reduceAdd, Nat.reduceSub, binA, IN, MX, buildA, fillA, faddrA, load_ptr, load_fp, rowOf_eq, packA, TK.isAgg, cellsOf, cellD, boxA, allocA, storeA, putCells, Nat.reduceLeDiff, extA, iaddr_fz, elSize_eq ty111 ty114, areaRows_length, hbk, hrow, Area.row, ty114, ty4]
          cases hbo : A.body with
          | false =>
            simp only [EV, EX, hP, reduceIte, Nat.reduceEqDiff, Nat.reduceAdd, Nat.reduceSub, binA, IN, MX, buildA, fillA, faddrA, load_ptr, load_fp, rowOf_eq, packA, TK.isAgg, cellsOf, cellD, boxA, allocA, storeA, putCells, Nat.reduceLeDiff, extA, pickA, w2]
            exact hnx _ rfl rfl rfl rfl rfl (by rw [← hskip (by rw [hbo]; rfl)]; rfl) rfl
          | true =>
            simp only [Area.row, hbo] at hhas
            simp only [EV, EX, hP, reduceIte, Nat.reduceEqDiff, Nat.reduceAdd, Nat.reduceSub, binA, IN, MX, buildA, fillA, faddrA, load_ptr, load_fp, rowOf_eq, packA, TK.isAgg, cellsOf, cellD, boxA, allocA, storeA, putCells, Nat.reduceLeDiff, extA, iaddr_fz, elSize_eq ty111 ty114, areaRows_length, hbk, hrow, Area.row, ty114, hbo]
            refine callW_pure hP hhas rfl rfl ?_
            cases hh : A.has i with
            | false =>
              simp only [EV, EX, hP, reduceIte, Nat.reduceEqDiff, Nat.reduceAdd, Nat.reduceSub, binA, IN, MX, buildA, fillA, faddrA, load_ptr, load_fp, rowOf_eq, packA, TK.isAgg, cellsOf, cellD, boxA, allocA, storeA, putCells, Nat.reduceLeDiff, extA, pickA, w2]
              exact hnx _ rfl rfl rfl rfl rfl (by rw [← hskip (by rw [hbo, hh]; rfl)]; rfl) rfl
            | true =>
              have hbo2 : (0 : Int) ≤ o ∧ (o : Int) < l.length := by omega
              have hg2 : (intRows (timesAt l i k))[i]? = some [.int .i64 (tmR l ((areasOf l).take k) i)] := by
                rw [intRows_get (by rw [timesAt_length]; exact hi2), timesAt_get hi2]
              rw [hbo, hh] at hstep
              simp only [Bool.and_self, if_true] at hstep
              rw [hpo, Int.toNat_natCast, nth_get ho] at hstep
              have w3 : IntKind.i64.wrap (tmR l ((areasOf l).take k) i * l[o].n) = tmR l ((areasOf l).take (k + 1)) i := by
                rw [← hstep]
                exact wrap_i64 (by omega) (by omega)
              simp only [EV, EX, hP, reduceIte, Nat.reduceEqDiff, Nat.reduceAdd, Nat.reduceSub, binA, IN, DR, DX, Nat.reduceMul, keysU, MX, buildA, fillA, faddrA, load_ptr, load_fp, rowOf_eq, packA, TK.isAgg, cellsOf, cellD, boxA, allocA, storeA, putCells, Nat.reduceLeDiff, extA, pickA, iaddr_sl, elSize_eq ty26 ty2, hb, ty2, hg2, iaddr_fz, elSize_eq ty111 ty114, areaRows_length, hbk, hrow, Area.row, ty114, ty3, hpo, elSize_eq ty34 ty60, instRows_length, hbo2, instRows_getD ho, Inst.row, ty60, w3, cells_int, drF_eq, intRows_set, timesAt_set]
              refine ⟨by kernel_rfl, ?_⟩
              simp only [EV, EX, hP, reduceIte, Nat.reduceEqDiff, Nat.reduceAdd, Nat.reduceSub, binA, IN, w2]
              exact hnx _ rfl rfl rfl rfl rfl rfl rfl
        · have hk2 : k = (areasOf l).length := by omega
          subst hk2
          simp only [EV, EX, hP, reduceIte, Nat.reduceEqDiff, Nat.reduceAdd, Nat.reduceSub, binA, IN, w1]
          refine hN' _ (i + 1) hi2 (by omega) (Sub.tell ⟨1, [], [], []⟩ (hq 1) rfl ⟨⟨_, rfl, .same _ rfl⟩, ⟨_, rfl, .sl 1 0 0 0 _ rfl⟩, ⟨_, rfl, .same _ (by simp only [plain, areaRows_plain])⟩, ⟨_, rfl, .same _ (by simp only [plain, instRows_plain])⟩, trivial⟩ ⟨.inl ⟨0, _, rfl, by simp, rfl, ?_⟩, trivial⟩)
          rw [timesAt_next]; exact lowB_same (intRows_plain _)
    · have hi2 : i = l.length := by omega
      subst hi2
      simp only [EV, EX, hP, reduceIte, Nat.reduceEqDiff, Nat.reduceAdd, Nat.reduceSub, binA, IN]
      have e : timesTo l l.length = timesR l := by
        apply List.map_congr_left
        intro j hj
        rw [if_pos (by simpa using hj)]
      rw [e]
      exact hQ _ ⟨⟨0, [], [], [0]⟩, [.sl 1 0 0 l.length], [.fz 1 (intRows (timesR l))], [], rfl, Nat.le_refl _, rfl, .cons _ _ _ _ (Tl.frzAll (by simp) rfl (by simp [intRows, timesR]) (intRows_plain _) (by intro r hr; obtain ⟨x, _, rfl⟩ := List.mem_map.1 hr; rfl)) .nil, trivial, rfl, rfl⟩
end Go.Fv
/- CONTRACTS: the document's Pairs. -/
namespace Go.Fv
open Go.Proofs

/-- In the same pieces. -/
def sameA (l : List Inst) (k i : Nat) : Bool := (areasOf l).all fun p => decide (p.has k = p.has i)

theorem any_take_succ {α : Type} {l : List α} {p : α → Bool} {k : Nat} (h : k < l.length) (h1 : (l.take k).any p = false) (h2 : p l[k] = false) : (l.take (k + 1)).any p = false := by
  rw [List.take_succ_eq_append_getElem h, List.any_append, h1]; simp [h2]

set_option maxRecDepth 100000 in
theorem s_rPairs (l : List Inst) (hl : l.length ≤ 24) (hx : ∀ x ∈ l, x.may = true) : Pure Try.prog 61 [.fz 4 (instRows l)] (pairsD (pairsOf l (sameA l))) := by
  have hps := Nat.le_trans (areasOf_length l) hl
  have har := s_areas l hl hx
  refine Spec.walk ok61 fun C Q hP hN hQ => ?_
  unfold c61
  have hq : ∀ q, ∀ n, C.N0 n → n < q := fun q n hn => absurd (hN n hn) (by omega)
  have hc : (0 : Int) ≤ l.length ∧ (l.length : Int) * ((8 : Nat) : Int) ≤ 281474976710656 := by omega
  simp only [EV, EX, hP, reduceIte, Nat.reduceEqDiff, Nat.reduceAdd, Nat.reduceSub, binA, IN, MX, buildA, fillA, faddrA, load_ptr, load_fp, rowOf_eq, packA, TK.isAgg, cellsOf, cellD, boxA, allocA, storeA, putCells, Nat.reduceLeDiff, extA, len_fz ty34, instRows_length, mkslA, elTI_eq ty94, ty3, true_and, and_self, hc, Int.toNat_natCast, intRows_replicate]
  refine callW_pure hP har (by simp [plainL, plain, instRows_plain]) (by simp [plain, areaRows_plain]) ?_
  simp only [EV, EX, hP, reduceIte, Nat.reduceEqDiff, Nat.reduceAdd, Nat.reduceSub, binA, IN]
  refine LoopW.by (fun (x : Nat × List Int × List Nat × List (List DV)) => ⟨[(7, some (.int .i64 (x.1 : Nat))), (6, some (.fz 4 (areaRows (areasOf l)))), (5, some (.sl 1 1 0 x.2.2.1.length)), (4, some (.sl 1 0 0 l.length)), (0, some (.fz 4 (instRows l)))],
    [(0, some (.rows 1 (intRows x.2.1))), (1, some (.rows 1 (opI x.2.2.1 ++ x.2.2.2)))], 32⟩)
    (fun x => x.1 ≤ l.length ∧ pUpto l (sameA l) x.1 = some (x.2.1, x.2.2.1) ∧ plainR x.2.2.2 = true) (fun x => l.length - x.1) (0, List.replicate l.length 0, [], []) ⟨Nat.zero_le _, rfl, rfl⟩ ?_ ?_
  · exact Sub.tell ⟨0, [(64, 0)], [(1, 1)], []⟩ (hq 0) rfl ⟨⟨_, rfl, .same _ rfl⟩, ⟨_, rfl, .same _ (by simp only [plain, areaRows_plain])⟩, ⟨_, rfl, .own 1 1 rfl⟩, ⟨_, rfl, .sl 1 64 0 0 _ rfl⟩, ⟨_, rfl, .same _ (by simp only [plain, instRows_plain])⟩, trivial⟩ ⟨.inl ⟨64, _, rfl, by simp, rfl, lowB_same (intRows_plain _)⟩, .inr ⟨1, rfl, rfl⟩, trivial⟩
  · rintro ⟨i, out, op, jk⟩ ⟨hi, hup, hjk⟩ N hN'
    simp only at hi hup hjk hN'
    simp only [EV, EX, hP, reduceIte, Nat.reduceEqDiff, Nat.reduceAdd, Nat.reduceSub, binA, IN, len_fz ty34, instRows_length]
    obtain ⟨hout, hop2, hopi, _⟩ := pUpto_ok hi hup
    refine condS_d (fun h => ?_) (fun h => ?_)
    · have hi2 : i < l.length := by omega
      have hb : (0 : Int) ≤ i ∧ (i : Int) < l.length := by omega
      have hsucc : pUpto l (sameA l) (i + 1) = pStep l (sameA l) i (out, op) := by simp only [pUpto, hup, Option.bind_some]
      have hnth := nth_get hi2
      have w1 : IntKind.i64.wrap ((i : Int) + 1) = ((i + 1 : Nat) : Int) := by rw [wrap_i64 (by omega) (by omega)]; omega
      have hfail : pStep l (sameA l) i (out, op) = none → ∀ S : St, S.get 2 = some .nilsl → S.get 3 = some (.bool false) → Q S := fun hf S g1 g2 => by
        refine hQ S <| retQ_pure [.nilsl, .bool false] (by simp only [resD, g1, g2]; rfl) rfl ⟨?_, rfl⟩
        rw [pairsOf_none (i := i + 1) (by rw [hsucc]; exact hf) hi2]; rfl
      have hgo : ∀ (S : St) (out' : List Int) (op' : List Nat) (jk' : List (List DV)) (q : Nat), pStep l (sameA l) i (out, op) = some (out', op') → plainR jk' = true → S.get 7 = some (.int .i64 ((i + 1 : Nat) : Int)) → S.get 6 = some (.fz 4 (areaRows (areasOf l))) → S.get 5 = some (.sl 1 q 0 op'.length) → S.get 4 = some (.sl 1 0 0 l.length) → S.get 0 = some (.fz 4 (instRows l)) →
          S.blk 0 = some (.rows 1 (intRows out')) → S.blk q = some (.rows 1 (opI op' ++ jk')) → (Nm.mk 1 [(q, 1)] [] []).ok S.nx 32 = true → (Nm.mk 1 [(q, 1)] [] []).new 0 = some 0 → (Nm.mk 1 [(q, 1)] [] []).new q = some 1 → N S := by
        intro S out' op' jk' q hst hj g1 g2 g3 g4 g5 b0 b1 hok m0 m1
        refine hN' _ (i + 1, out', op', jk') ⟨hi2, by rw [hsucc]; exact hst, hj⟩ (by simp; omega) (Sub.tell ⟨1, [(q, 1)], [], []⟩ (hq 1) hok ⟨⟨_, g1, .same _ rfl⟩, ⟨_, g2, .same _ (by simp only [plain, areaRows_plain])⟩, ⟨_, g3, .sl 1 q 1 0 _ m1⟩, ⟨_, g4, .sl 1 0 0 0 _ m0⟩, ⟨_, g5, .same _ (by simp only [plain, instRows_plain])⟩, trivial⟩
          ⟨.inl ⟨0, _, m0, by simp, b0, lowB_same (intRows_plain _)⟩, .inl ⟨q, _, m1, by simp, b1, lowB_same (by rw [plainR_append, hj, opI, intRows_plain]; rfl)⟩, trivial⟩)
      have hle : op.length ≤ (opI op ++ jk).length := by rw [List.length_append, opI_length]; omega
      have hroom : ((op.length : Int) + ((1 : Nat) : Int)) * ((8 : Nat) : Int) ≤ 140737488355328 := by omega
      simp only [EV, EX, hP, reduceIte, Nat.reduceEqDiff, Nat.reduceAdd, Nat.reduceSub, binA, IN, MX, buildA, fillA, faddrA, load_ptr, load_fp, rowOf_eq, packA, TK.isAgg, cellsOf, cellD, boxA, allocA, storeA, putCells, Nat.reduceLeDiff, extA, iaddr_fz, elSize_eq ty34 ty60, instRows_length, hb, instRows_getD hi2, Inst.row, ty60, ty3]
      refine condS_d (fun h9 => ?_) (fun h9 => ?_)
      · have hst : pStep l (sameA l) i (out, op) = if 2 ≤ op.length ∨ op.any (fun k => decide ((nth l k).a = (nth l i).a)) = true then none else some (out, op ++ [i]) := by
          simp only [pStep, hnth, h9, if_true]
        simp only [EV, EX, hP, reduceIte, Nat.reduceEqDiff, Nat.reduceAdd, Nat.reduceSub, binA, IN]
        refine LoopW.by (fun k => ⟨[(8, some (.int .i64 (k : Nat))), (7, some (.int .i64 (i : Nat))), (6, some (.fz 4 (areaRows (areasOf l)))), (5, some (.sl 1 1 0 op.length)), (4, some (.sl 1 0 0 l.length)), (0, some (.fz 4 (instRows l)))],
          [(0, some (.rows 1 (intRows out))), (1, some (.rows 1 (opI op ++ jk)))], 32⟩) (fun k => k ≤ op.length ∧ (op.take k).any (fun k => decide ((nth l k).a = (nth l i).a)) = false) (fun k => op.length - k) 0 ⟨Nat.zero_le _, rfl⟩ ?_ ?_
        · exact Sub.tell ⟨2, [], [], []⟩ (hq 2) rfl ⟨⟨_, rfl, .same _ rfl⟩, ⟨_, rfl, .same _ rfl⟩, ⟨_, rfl, .same _ (by simp only [plain, areaRows_plain])⟩, ⟨_, rfl, .sl 1 1 1 0 _ rfl⟩, ⟨_, rfl, .sl 1 0 0 0 _ rfl⟩, ⟨_, rfl, .same _ (by simp only [plain, instRows_plain])⟩, trivial⟩
            ⟨.inl ⟨0, _, rfl, by simp, rfl, lowB_same (intRows_plain _)⟩, .inl ⟨1, _, rfl, by simp, rfl, lowB_same (by rw [plainR_append, hjk, opI, intRows_plain]; rfl)⟩, trivial⟩
        · rintro k ⟨hk, hno⟩ N2 hN2
          simp only [EV, EX, hP, reduceIte, Nat.reduceEqDiff, Nat.reduceAdd, Nat.reduceSub, binA, IN, len_sl ty94]
          refine condS_d (fun h3 => ?_) (fun h3 => ?_)
          · have hk2 : k < op.length := by omega
            have hk3 : op[k] < i := hopi _ (List.getElem_mem hk2)
            have hk4 : op[k] < l.length := by omega
            have hbk : (0 : Int) ≤ k ∧ (k : Int) < op.length := by omega
            have hbk2 : (0 : Int) ≤ (op[k] : Nat) ∧ ((op[k] : Nat) : Int) < l.length := by omega
            have hget : (opI op ++ jk)[k]? = some [.int .i64 (op[k] : Nat)] := by
              rw [List.getElem?_append_left (by rw [opI_length]; exact hk2)]
              simp [opI, intRows, hk2]
            have w2 : IntKind.i64.wrap ((k : Int) + 1) = ((k + 1 : Nat) : Int) := by rw [wrap_i64 (by omega) (by omega)]; omega
            simp only [EV, EX, hP, reduceIte, Nat.reduceEqDiff, Nat.reduceAdd, Nat.reduceSub, binA, IN, DR, DX, Nat.reduceMul, keysU, MX, buildA, fillA, faddrA, load_ptr, load_fp, rowOf_eq, packA, TK.isAgg, cellsOf, cellD, boxA, allocA, storeA, putCells, Nat.reduceLeDiff, extA, iaddr_sl, elSize_eq ty94 ty3, hbk, hget, ty3, iaddr_fz, elSize_eq ty34 ty60, instRows_length, hbk2, hb, instRows_getD hk4, instRows_getD hi2, Inst.row, ty60, drF_eq]
            refine ⟨by kernel_rfl, ?_⟩
            try simp only [EV, EX, hP, reduceIte, Nat.reduceEqDiff, Nat.reduceAdd, Nat.reduceSub]
            refine condS_d (fun h4 => ?_) (fun h4 => ?_)
            · simp only [EV, EX, hP, reduceIte, Nat.reduceEqDiff, Nat.reduceAdd, Nat.reduceSub, binA, IN]
              exact hfail (by rw [hst, if_pos (.inr (List.any_eq_true.2 ⟨op[k], List.getElem_mem hk2, by rw [nth_get hk4, hnth]; simpa using h4⟩))]) _ rfl rfl
            · simp only [EV, EX, hP, reduceIte, Nat.reduceEqDiff, Nat.reduceAdd, Nat.reduceSub, binA, IN, w2]
              exact hN2 _ (k + 1) ⟨hk2, any_take_succ hk2 hno (by rw [nth_get hk4, hnth]; simpa using h4)⟩ (by omega) (Sub.tell ⟨2, [], [], []⟩ (hq 2) rfl ⟨⟨_, rfl, .same _ rfl⟩, ⟨_, rfl, .same _ rfl⟩, ⟨_, rfl, .same _ (by simp only [plain, areaRows_plain])⟩, ⟨_, rfl, .sl 1 1 1 0 _ rfl⟩, ⟨_, rfl, .sl 1 0 0 0 _ rfl⟩, ⟨_, rfl, .same _ (by simp only [plain, instRows_plain])⟩, trivial⟩
                ⟨.inl ⟨0, _, rfl, by simp, rfl, lowB_same (intRows_plain _)⟩, .inl ⟨1, _, rfl, by simp, rfl, lowB_same (by rw [plainR_append, hjk, opI, intRows_plain]; rfl)⟩, trivial⟩)
          · have hk2 : k = op.length := by omega
            subst hk2
            rw [List.take_length] at hno
            have e1 : op.length + 1 = (op ++ [i]).length := by simp
            have e2 : opI op ++ [[.int .i64 i]] = opI (op ++ [i]) ++ [] := by rw [opI_append, opI_one, List.append_nil]
            simp only [EV, EX, hP, reduceIte, Nat.reduceEqDiff, Nat.reduceAdd, Nat.reduceSub, binA, IN, MX, buildA, fillA, faddrA, load_ptr, load_fp, rowOf_eq, packA, TK.isAgg, cellsOf, cellD, boxA, allocA, storeA, putCells, Nat.reduceLeDiff, extA, ty3, bslA, elTI_eq ty94, setRows, List.replicate_succ, List.replicate_zero, List.getD_cons_zero, Nat.reduceLT, Nat.reduceMul, true_and, and_true, appA, ty94, rowsOf, hle, hroom, opI_take, len_sl ty94]
            refine condS_d (fun h4 => ?_) (fun h4 => ?_)
            · simp only [EV, EX, hP, reduceIte, Nat.reduceEqDiff, Nat.reduceAdd, Nat.reduceSub, binA, IN]
              exact hfail (by rw [hst, if_pos (.inl (by omega))]) _ rfl rfl
            · simp only [EV, EX, hP, reduceIte, Nat.reduceEqDiff, Nat.reduceAdd, Nat.reduceSub, binA, IN, w1]
              rw [e1, e2]
              exact hgo _ out (op ++ [i]) [] 144 (by rw [hst, if_neg (by rw [hno]; simp; omega)]) rfl rfl rfl rfl rfl rfl rfl rfl rfl rfl rfl
      · simp only [EV, EX, hP, reduceIte, Nat.reduceEqDiff, Nat.reduceAdd, Nat.reduceSub, binA, IN, h9, decide_false]
        refine condS_d (fun h10 => ?_) (fun h10 => ?_)
        · simp only [EV, EX, hP, reduceIte, Nat.reduceEqDiff, Nat.reduceAdd, Nat.reduceSub, binA, IN, len_sl ty94]
          rcases (List.eq_nil_or_concat op).imp id (fun x => let ⟨a, b, e⟩ := x; (⟨a, b, by rw [e, List.concat_eq_append]⟩ : ∃ a b, op = a ++ [b])) with rfl | ⟨op', k, rfl⟩
          · have hst : pStep l (sameA l) i (out, []) = none := by
              simp only [pStep, hnth]
              rw [if_neg h9, if_pos h10]; rfl
            have hz : (((0 : Nat) : Int) = 0) = True := by simp
            simp only [EV, EX, hP, reduceIte, Nat.reduceEqDiff, Nat.reduceAdd, Nat.reduceSub, DR, DX, Nat.reduceMul, keysU, binA, IN, len_sl ty94, List.length_nil, hz, decide_true, pickA, drF_eq]
            refine ⟨by kernel_rfl, ?_⟩
            try simp only [EV, EX, hP, reduceIte, Nat.reduceEqDiff, Nat.reduceAdd, Nat.reduceSub]
            exact hfail hst _ rfl rfl
          · have hki : k < i := hopi k (by simp)
            have hk : k < l.length := by omega
            have hknth := nth_get hk
            have hlen1 : ((((op' ++ [k]).length : Nat) : Int) = 0) = False := by simp; omega
            have hw : IntKind.i64.wrap (((op' ++ [k]).length : Int) - 1) = op'.length := by
              rw [List.length_append, List.length_singleton, wrap_i64 (by simp at hop2; omega) (by simp at hop2; omega)]; omega
            have hbl : (0 : Int) ≤ op'.length ∧ (op'.length : Int) < ((op' ++ [k]).length : Nat) := by rw [List.length_append, List.length_singleton]; omega
            have hbk : (0 : Int) ≤ k ∧ (k : Int) < l.length := by omega
            have hst : pStep l (sameA l) i (out, op' ++ [k]) = if (nth l k).a ≠ (nth l i).a ∨ sameA l k i = false then none else some (out.set k i, op') := by
              simp only [pStep, hnth]
              rw [if_neg h9, if_pos h10]
              simp
            by_cases hA : l[k].a = l[i].a
            · simp only [EV, EX, hP, reduceIte, Nat.reduceEqDiff, Nat.reduceAdd, Nat.reduceSub, DR, DX, Nat.reduceMul, keysU, binA, IN, MX, buildA, fillA, faddrA, load_ptr, load_fp, rowOf_eq, packA, TK.isAgg, cellsOf, cellD, boxA, allocA, storeA, putCells, Nat.reduceLeDiff, extA, len_sl ty94, hlen1, decide_false, hw, iaddr_sl, elSize_eq ty94 ty3, hbl, opI_last, ty3, iaddr_fz, elSize_eq ty34 ty60, instRows_length, hbk, hb, instRows_getD hk, instRows_getD hi2, Inst.row, ty60, pickA, hA, decide_true, Bool.not_true, drF_eq]
              refine ⟨by kernel_rfl, ?_⟩
              have hz0 : ((0 : Int) ≤ (op'.length : Int)) = True := by simp
              have hz1 : (op'.length ≤ (op' ++ [k]).length) = True := by simp
              simp only [EV, EX, hP, reduceIte, Nat.reduceEqDiff, Nat.reduceAdd, Nat.reduceSub, binA, IN, MX, buildA, fillA, faddrA, load_ptr, load_fp, rowOf_eq, packA, TK.isAgg, cellsOf, cellD, boxA, allocA, storeA, putCells, Nat.reduceLeDiff, extA, len_sl ty94, hw, iaddr_sl, elSize_eq ty94 ty3, hbl, opI_last, ty3, sliceA, bnd, hz0, hz1, if_true, Int.toNat_natCast, Nat.zero_le, Nat.le_refl, Option.isSome_none, Bool.false_eq_true, false_implies, and_true, true_and, Nat.sub_zero, Nat.zero_add]
              have e2 : opI (op' ++ [k]) ++ jk = opI op' ++ ([.int .i64 (k : Nat)] :: jk) := by rw [opI_append, opI_one, List.append_assoc]; rfl
              have hjk2 : plainR ([.int .i64 (k : Nat)] :: jk) = true := by simp [plainR, plainL, plain, hjk]
              refine LoopW.by (fun m => ⟨[(10, some (.int .i64 (m : Nat))), (9, some (.int .i64 (k : Nat))), (7, some (.int .i64 (i : Nat))), (6, some (.fz 4 (areaRows (areasOf l)))), (5, some (.sl 1 1 0 op'.length)), (4, some (.sl 1 0 0 l.length)), (0, some (.fz 4 (instRows l)))],
                [(0, some (.rows 1 (intRows out))), (1, some (.rows 1 (opI op' ++ ([.int .i64 (k : Nat)] :: jk))))], 32⟩) (fun m => m ≤ (areasOf l).length ∧ ((areasOf l).take m).all (fun p => decide (p.has k = p.has i)) = true) (fun m => (areasOf l).length - m) 0 ⟨Nat.zero_le _, rfl⟩ ?_ ?_
              · rw [e2]
                exact Sub.tell ⟨2, [], [], []⟩ (hq 2) rfl ⟨⟨_, rfl, .same _ rfl⟩, ⟨_, rfl, .same _ rfl⟩, ⟨_, rfl, .same _ rfl⟩, ⟨_, rfl, .same _ (by simp only [plain, areaRows_plain])⟩, ⟨_, rfl, .sl 1 1 1 0 _ rfl⟩, ⟨_, rfl, .sl 1 0 0 0 _ rfl⟩, ⟨_, rfl, .same _ (by simp only [plain, instRows_plain])⟩, trivial⟩
                  ⟨.inl ⟨0, _, rfl, by simp, rfl, lowB_same (intRows_plain _)⟩, .inl ⟨1, _, rfl, by simp, rfl, lowB_same (by rw [plainR_append, hjk2, opI, intRows_plain]; rfl)⟩, trivial⟩
              · rintro m ⟨hm, hall⟩ N3 hN3
                simp only [EV, EX, hP, reduceIte, Nat.reduceEqDiff, Nat.reduceAdd, Nat.reduceSub, binA, IN, len_fz ty111, areaRows_length]
                refine condS_d (fun h5 => ?_) (fun h5 => ?_)
                · have hm2 : m < (areasOf l).length := by omega
                  have hbm : (0 : Int) ≤ m ∧ (m : Int) < (areasOf l).length := by omega
                  have w3 : IntKind.i64.wrap ((m : Int) + 1) = ((m + 1 : Nat) : Int) := by rw [wrap_i64 (by omega) (by omega)]; omega
                  have hh1 := s_area_has (areasOf l)[m] k
                  have hh2 := s_area_has (areasOf l)[m] i
                  have hmem : (areasOf l)[m] ∈ areasOf l := List.getElem_mem hm2
                  have hrow : (areaRows (areasOf l)).getD m [] = (areasOf l)[m].row := areaRows_getD hm2
                  have hnx := all_take (p := fun p : Area => decide (p.has k = p.has i)) hm2 hall
                  generalize (areasOf l)[m] = A at *
                  simp only [Area.row] at hh1 hh2
                  simp only [EV, EX, hP, reduceIte, Nat.reduceEqDiff, Nat.reduceAdd, Nat.reduceSub, binA, IN, DR, DX, Nat.reduceMul, keysU, MX, buildA, fillA, faddrA, load_ptr, load_fp, rowOf_eq, packA, TK.isAgg, cellsOf, cellD, boxA, allocA, storeA, putCells, Nat.reduceLeDiff, extA, iaddr_fz, elSize_eq ty111 ty114, areaRows_length, hbm, hrow, Area.row, ty114]
                  refine callD_pure hP hh1 rfl rfl ?_
                  simp only [EV, EX, hP, reduceIte, Nat.reduceEqDiff, Nat.reduceAdd, Nat.reduceSub, binA, IN, DR, DX, Nat.reduceMul, keysU, MX, buildA, fillA, faddrA, load_ptr, load_fp, rowOf_eq, packA, TK.isAgg, cellsOf, cellD, boxA, allocA, storeA, putCells, Nat.reduceLeDiff, extA, iaddr_fz, elSize_eq ty111 ty114, areaRows_length, hbm, hrow, Area.row, ty114]
                  refine callD_pure hP hh2 rfl rfl ?_
                  simp only [EV, EX, hP, reduceIte, Nat.reduceEqDiff, Nat.reduceAdd, Nat.reduceSub, binA, IN, DR, DX, Nat.reduceMul, keysU, MX, buildA, fillA, faddrA, load_ptr, load_fp, rowOf_eq, packA, TK.isAgg, cellsOf, cellD, boxA, allocA, storeA, putCells, Nat.reduceLeDiff, extA, ty4, drF_eq]
                  refine ⟨by kernel_rfl, ?_⟩
                  try simp only [EV, EX, hP, reduceIte, Nat.reduceEqDiff, Nat.reduceAdd, Nat.reduceSub]
                  by_cases he : A.has k = A.has i
                  · simp only [he, decide_true, Bool.not_true, EV, EX, hP, reduceIte, Nat.reduceEqDiff, Nat.reduceAdd, Nat.reduceSub, binA, IN, w3]
                    exact hN3 _ (m + 1) ⟨hm2, hnx (by simp [he])⟩ (by omega) (Sub.tell ⟨2, [], [], []⟩ (hq 2) rfl ⟨⟨_, rfl, .same _ rfl⟩, ⟨_, rfl, .same _ rfl⟩, ⟨_, rfl, .same _ rfl⟩, ⟨_, rfl, .same _ (by simp only [plain, areaRows_plain])⟩, ⟨_, rfl, .sl 1 1 1 0 _ rfl⟩, ⟨_, rfl, .sl 1 0 0 0 _ rfl⟩, ⟨_, rfl, .same _ (by simp only [plain, instRows_plain])⟩, trivial⟩
                      ⟨.inl ⟨0, _, rfl, by simp, rfl, lowB_same (intRows_plain _)⟩, .inl ⟨1, _, rfl, by simp, rfl, lowB_same (by rw [plainR_append, hjk2, opI, intRows_plain]; rfl)⟩, trivial⟩)
                  · simp only [he, decide_false, Bool.not_false, EV, EX, hP, reduceIte, Nat.reduceEqDiff, Nat.reduceAdd, Nat.reduceSub, binA, IN]
                    have hsf : sameA l k i = false := by
                      unfold sameA
                      rw [List.all_eq_false]
                      exact ⟨A, hmem, by simpa using he⟩
                    exact hfail (by rw [hst]; exact if_pos (.inr hsf)) _ rfl rfl
                · have hm2 : m = (areasOf l).length := by omega
                  subst hm2
                  rw [List.take_length] at hall
                  have hko : k < out.length := by omega
                  simp only [EV, EX, hP, reduceIte, Nat.reduceEqDiff, Nat.reduceAdd, Nat.reduceSub, binA, IN, MX, buildA, fillA, faddrA, load_ptr, load_fp, rowOf_eq, packA, TK.isAgg, cellsOf, cellD, boxA, allocA, storeA, putCells, Nat.reduceLeDiff, extA, iaddr_sl, elSize_eq ty94 ty3, hbk, intRows_get hko, ty3, cells_int, intRows_set, w1]
                  exact hgo _ (out.set k i) op' ([.int .i64 (k : Nat)] :: jk) 1 (by rw [hst, if_neg]; rw [hknth, hnth]; simp only [hA, ne_eq, not_true_eq_false, false_or]; unfold sameA; rw [hall]; simp) hjk2 rfl rfl rfl rfl rfl rfl rfl rfl rfl rfl
            · simp only [EV, EX, hP, reduceIte, Nat.reduceEqDiff, Nat.reduceAdd, Nat.reduceSub, DR, DX, Nat.reduceMul, keysU, binA, IN, MX, buildA, fillA, faddrA, load_ptr, load_fp, rowOf_eq, packA, TK.isAgg, cellsOf, cellD, boxA, allocA, storeA, putCells, Nat.reduceLeDiff, extA, len_sl ty94, hlen1, decide_false, hw, iaddr_sl, elSize_eq ty94 ty3, hbl, opI_last, ty3, iaddr_fz, elSize_eq ty34 ty60, instRows_length, hbk, hb, instRows_getD hk, instRows_getD hi2, Inst.row, ty60, pickA, hA, Bool.not_false, drF_eq]
              refine ⟨by kernel_rfl, ?_⟩
              try simp only [EV, EX, hP, reduceIte, Nat.reduceEqDiff, Nat.reduceAdd, Nat.reduceSub]
              exact hfail (by rw [hst, if_pos]; rw [hknth, hnth]; exact .inl hA) _ rfl rfl
        · simp only [EV, EX, hP, reduceIte, Nat.reduceEqDiff, Nat.reduceAdd, Nat.reduceSub, binA, IN, w1]
          exact hgo _ out op jk 1 (by simp only [pStep, hnth]; rw [if_neg h9, if_neg h10]) hjk rfl rfl rfl rfl rfl rfl rfl rfl rfl rfl
    · have hi2 : i = l.length := by omega
      subst hi2
      simp only [EV, EX, hP, reduceIte, Nat.reduceEqDiff, Nat.reduceAdd, Nat.reduceSub, binA, IN, len_sl ty94]
      refine condS_d (fun h2 => ?_) (fun h2 => ?_)
      · simp only [EV, EX, hP, reduceIte, Nat.reduceEqDiff, Nat.reduceAdd, Nat.reduceSub, binA, IN]
        refine hQ _ <| retQ_pure _ rfl rfl ⟨?_, rfl⟩
        have : pairsOf l (sameA l) = none := by
          simp only [pairsOf, hup]
          cases op with
          | nil => simp at h2
          | cons => rfl
        rw [this]; rfl
      · simp only [EV, EX, hP, reduceIte, Nat.reduceEqDiff, Nat.reduceAdd, Nat.reduceSub, binA, IN]
        have : pairsOf l (sameA l) = some out := by
          simp only [pairsOf, hup]
          cases op with
          | nil => rfl
          | cons => simp at h2
        rw [this] at hQ
        refine hQ _ ⟨⟨0, [], [], [0]⟩, [.sl 1 0 0 l.length, .bool true], [.fz 1 (intRows out), .bool true], [], rfl, Nat.le_refl _, rfl, .cons _ _ _ _ (Tl.frzAll (by simp) rfl (by simp [intRows, hout]) (intRows_plain _) ?_) (.cons _ _ _ _ (.same _ rfl) .nil), trivial, rfl, rfl⟩
        intro r hr; obtain ⟨x, _, rfl⟩ := List.mem_map.1 hr; rfl
end Go.Fv
/- PLAIN: the document's MayCode and the program's are alike. -/
namespace Go.Fv

theorem inCell_at {ps : List Area} {i m : Nat} : inCell ps ps.length false i m = ((ps[m]?).map fun p => p.has i).getD false := by
  unfold inCell
  by_cases h : m < ps.length
  · rw [if_pos (.inl h)]
  · rw [if_neg (by simp; omega), List.getElem?_eq_none (by omega)]; rfl
theorem inB_same {l : List Inst} (hl : (areasOf l).length ≤ 24) (k i : Nat) : inB l k = inB l i ↔ ∀ p ∈ areasOf l, p.has k = p.has i := by
  unfold inB
  rw [List.map_inj_left]
  constructor
  · intro h p hp
    obtain ⟨m, hm, rfl⟩ := List.getElem_of_mem hp
    have := h m (List.mem_range.2 (by omega))
    simpa [inCell_at, hm] using this
  · intro h m _
    rw [inCell_at, inCell_at]
    by_cases hm : m < (areasOf l).length
    · simp [hm, h _ (List.getElem_mem hm)]
    · rw [List.getElem?_eq_none (by omega)]; rfl
theorem inB_none {l : List Inst} (hl : (areasOf l).length ≤ 24) (i : Nat) : inB l i = bits0 ↔ ∀ p ∈ areasOf l, p.has i = false := by
  unfold inB bits0
  rw [show List.replicate 24 false = (List.range 24).map fun _ => false by simp [List.map_const'], List.map_inj_left]
  constructor
  · intro h p hp
    obtain ⟨m, hm, rfl⟩ := List.getElem_of_mem hp
    have := h m (List.mem_range.2 (by omega))
    simpa [inCell_at, hm] using this
  · intro h m _
    rw [inCell_at]
    by_cases hm : m < (areasOf l).length
    · simp [hm, h _ (List.getElem_mem hm)]
    · rw [List.getElem?_eq_none (by omega)]; rfl
theorem same_AB {l : List Inst} (hl : (areasOf l).length ≤ 24) : sameA l = sameB l := by
  funext k i
  unfold sameA sameB
  rw [Bool.eq_iff_iff, List.all_eq_true, decide_eq_true_eq, inB_same hl]
  simp

/-- Who stands in another's place, as the document says it. -/
def refBad (p q : Area) : Bool := (!p.apart q && !(decide (p.p ≤ q.p) && decide (q.q ≤ p.q) || decide (q.p ≤ p.p) && decide (p.q ≤ q.q))) || (p.has q.o && decide (p.q < q.q))
theorem refBad_eq {p q : Area} (hp : p.p ≤ p.q) (hq : q.p ≤ q.q) (ho : q.p = q.o + 1) : refBad p q = pairBad q p := by
  unfold refBad pairBad
  rw [Bool.eq_iff_iff]
  simp [Area.has, Area.within, Area.apart]
  omega
theorem pairBad_self {p : Area} (hp : p.p ≤ p.q) (ho : p.p = p.o + 1) : pairBad p p = false := by
  rw [Bool.eq_false_iff]
  simp [pairBad, Area.has, Area.within, Area.apart]
  omega

/-- Where no lock stands, no pair is told. -/
theorem pUpto_zero {l : List Inst} {same : Nat → Nat → Bool} : ∀ {i : Nat} {out : List Int} {op : List Nat}, i ≤ l.length → pUpto l same i = some (out, op) →
    (∀ k ∈ op, (nth l k).op = 9) ∧ ∀ k, (nth l k).op ≠ 9 → out.getD k 0 = 0
  | 0, out, op, _, h => by
    simp only [pUpto, Option.some.injEq, Prod.mk.injEq] at h
    obtain ⟨rfl, rfl⟩ := h
    refine ⟨by simp, fun k _ => ?_⟩
    rw [List.getD_eq_getElem?_getD, List.getElem?_replicate]
    split <;> rfl
  | i + 1, out, op, hi, h => by
    simp only [pUpto, Option.bind_eq_some_iff] at h
    obtain ⟨⟨out0, op0⟩, h1, h2⟩ := h
    obtain ⟨g1, g2⟩ := pUpto_zero (show i ≤ l.length by omega) h1
    unfold pStep at h2
    split at h2
    · rename_i h9
      split at h2
      · cases h2
      · cases h2
        refine ⟨fun k hk => ?_, g2⟩
        rcases List.mem_append.1 hk with hk | hk
        · exact g1 k hk
        · simp only [List.mem_singleton] at hk; subst hk; exact h9
    · split at h2
      · split at h2
        · cases h2
        · rename_i k0 hl
          split at h2
          · cases h2
          · cases h2
            refine ⟨fun k hk => g1 k ((List.dropLast_sublist _).subset hk), fun k hk => ?_⟩
            have : k0 ≠ k := by rintro rfl; exact hk (g1 _ (List.mem_of_getLast? hl))
            have := g2 k hk
            simp only [List.getD_eq_getElem?_getD] at this ⊢
            rw [List.getElem?_set_ne (by assumption)]
            exact this
      · cases h2; exact ⟨g1, g2⟩
theorem pairs_zero {l : List Inst} {same : Nat → Nat → Bool} {ps : List Int} (h : pairsOf l same = some ps) : ∀ k, (nth l k).op ≠ 9 → ps.getD k 0 = 0 := by
  unfold pairsOf at h
  split at h
  · rename_i out hu
    cases h
    exact (pUpto_zero (Nat.le_refl _) hu).2
  · cases h

theorem held_any {l : List Inst} {same : Nat → Nat → Bool} {ps : List Int} (h : pairsOf l same = some ps) {i : Nat} (hi : i < l.length) : (0 < heldN l ps i l.length) ↔ (ps.take i).any (fun e => decide ((i : Int) < e)) = true := by
  have hlen := (pairs_at h).1
  unfold heldN
  rw [List.length_pos_iff_exists_mem]
  simp only [List.mem_filter, List.mem_range, List.any_eq_true, decide_eq_true_eq]
  constructor
  · rintro ⟨k, hk, hh⟩
    simp only [heldAt, Bool.and_eq_true, decide_eq_true_eq] at hh
    have hk2 : k < ps.length := by omega
    refine ⟨ps.getD k 0, ?_, hh.2⟩
    rw [List.getD_eq_getElem?_getD, List.getElem?_eq_getElem hk2]
    exact List.mem_take_iff_getElem.2 ⟨k, by omega, rfl⟩
  · rintro ⟨e, he, hie⟩
    obtain ⟨k, hk, rfl⟩ := List.mem_take_iff_getElem.1 he
    have hk2 : k < ps.length := by omega
    have e1 : ps.getD k 0 = ps[k] := by rw [List.getD_eq_getElem?_getD, List.getElem?_eq_getElem hk2]; rfl
    refine ⟨k, by omega, ?_⟩
    simp only [heldAt, Bool.and_eq_true, decide_eq_true_eq]
    refine ⟨⟨?_, by omega⟩, by omega⟩
    by_cases h9 : (nth l k).op = 9
    · exact h9
    · have := pairs_zero h k h9
      omega

/-- The last ends, and none before. -/
theorem ends_iff {l : List Inst} (h1 : 1 ≤ l.length) : idxOf (fun x : Inst => decide (x.op = 0)) l = (l.length : Int) - 1 ↔ ∀ i, i < l.length → ((nth l i).op = 0 ↔ i = l.length - 1) := by
  constructor
  · intro h i hi
    rw [nth_get hi]
    unfold idxOf at h
    split at h
    · rename_i k hk
      rw [List.findIdx?_eq_some_iff_getElem] at hk
      obtain ⟨hk1, hk2, hk3⟩ := hk
      have e : k = l.length - 1 := by omega
      subst e
      constructor
      · intro h0
        by_cases hlt : i < l.length - 1
        · have := hk3 i hlt
          simp [h0] at this
        · omega
      · rintro rfl
        simpa using hk2
    · omega
  · intro h
    have e := idxOf_append_none (p := fun x : Inst => decide (x.op = 0)) (l := l) (i := l.length - 1) (by omega) ?_ ?_
    · rw [e]; omega
    · rw [List.any_eq_false]
      intro x hx
      obtain ⟨j, hj, rfl⟩ := List.mem_take_iff_getElem.1 hx
      have := h j (by omega)
      rw [nth_get (by omega)] at this
      simp; omega
    · have := (h (l.length - 1) (by omega)).2 rfl
      rw [nth_get (by omega)] at this
      simpa using this

theorem shapeMay_no {l : List Inst} (h : ¬ ((1 ≤ l.length ∧ l.length ≤ 24) ∧ (∀ x ∈ l, x.may = true) ∧ idxOf (fun x : Inst => decide (x.op = 0)) l = (l.length : Int) - 1 ∧ nestOk l = true ∧
    ∃ ps, pairsOf l (sameB l) = some ps ∧ (List.range l.length).all (markOk l ps) = true)) : shapeMay l = false := by
  cases hs : shapeMay l with
  | false => rfl
  | true => exact absurd (shapeMay_inv hs) h
end Go.Fv
