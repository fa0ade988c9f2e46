/- Part 3 of the proof: RowBoundRises. -/
import Derived.Test.YtghoeoidffkijaaProg
import Derived.Test.YtghoeoidffkijaaBq2
set_option linter.unusedSimpArgs false
set_option linter.unusedVariables false
/- CONTRACTS: cost.times. -/
namespace Go.Fv
open Go.Proofs

/-- An instruction: what it does, and its three numbers. -/
structure Inst where
  op : Int
  a : Int
  b : Int
  n : Int
def Inst.row (x : Inst) : List DV := [.int .i64 x.op, .int .i64 x.a, .int .i64 x.b, .int .i64 x.n]
def Inst.ok (x : Inst) : Prop := i64r x.op ∧ i64r x.a ∧ i64r x.b ∧ i64r x.n
def instRows (l : List Inst) : List (List DV) := l.map Inst.row
theorem instRows_length (l : List Inst) : (instRows l).length = l.length := by simp [instRows]
theorem instRows_plain (l : List Inst) : plainR (instRows l) = true := plainR_map fun _ => rfl
theorem instRows_getD {l : List Inst} {i : Nat} (h : i < l.length) : (instRows l).getD i [] = l[i].row := getD_map _ _ _ _ h

/-- How often an instruction is done, by the first i of them. -/
def tmUpto (l : List Inst) (i k : Nat) : Int := (l.take i).zipIdx.foldl (fun s x => if x.1.op = 8 ∧ x.2 < k ∧ (k : Int) ≤ x.2 + x.1.b then (satMul s x.1.n).1 else s) 1

/-- Each repetition's body lies in the code. -/
def RepIn (l : List Inst) : Prop := ∀ (i : Nat) (x : Inst), l[i]? = some x → x.op = 8 → (i : Int) + x.b < l.length

def costTimes (l : List Inst) : List Int := (List.range l.length).map (tmUpto l l.length)

theorem tmUpto_succ {l : List Inst} {i k : Nat} (h : i < l.length) : tmUpto l (i + 1) k = if l[i].op = 8 ∧ i < k ∧ (k : Int) ≤ i + l[i].b then (satMul (tmUpto l i k) l[i].n).1 else tmUpto l i k := by
  unfold tmUpto
  rw [List.take_succ_eq_append_getElem h, List.zipIdx_append, List.foldl_append]
  simp only [List.length_take, Nat.min_eq_left (Nat.le_of_lt h), Nat.zero_add, List.zipIdx_cons, List.zipIdx_nil, List.foldl_cons, List.foldl_nil]

/-- The numbers within a repetition, when j of its instructions are done. -/
def tmIn (l : List Inst) (i : Nat) (n : Int) (j : Nat) : List Int := (List.range l.length).map fun k => if i < k ∧ k < i + 1 + j then (satMul (tmUpto l i k) n).1 else tmUpto l i k
theorem tmIn_zero {l : List Inst} {i : Nat} {n : Int} : tmIn l i n 0 = (List.range l.length).map (tmUpto l i) := by
  unfold tmIn
  apply List.map_congr_left
  intro k _
  rw [if_neg (by omega)]
theorem tmIn_length {l : List Inst} {i : Nat} {n : Int} {j : Nat} : (tmIn l i n j).length = l.length := by simp [tmIn]
theorem tmIn_get {l : List Inst} {i : Nat} {n : Int} {j : Nat} (h : i + 1 + j < (tmIn l i n j).length) : (tmIn l i n j)[i + 1 + j] = tmUpto l i (i + 1 + j) := by
  simp [tmIn]
theorem tmIn_set {l : List Inst} {i : Nat} {n : Int} {j : Nat} : (tmIn l i n j).set (i + 1 + j) (satMul (tmUpto l i (i + 1 + j)) n).1 = tmIn l i n (j + 1) := by
  apply List.ext_getElem (by simp [tmIn])
  intro k h1 h2
  simp only [tmIn, List.getElem_set, List.getElem_map, List.getElem_range]
  by_cases e : i + 1 + j = k
  · subst e; simp only [if_true]; rw [if_pos (by omega)]
  · rw [if_neg e]
    by_cases h3 : i < k ∧ k < i + 1 + j
    · rw [if_pos h3, if_pos (by omega)]
    · rw [if_neg h3, if_neg (by omega)]
theorem satMul_i64 {a b : Int} : i64r (satMul a b).1 := by
  unfold satMul i64r
  split
  · exact ⟨by decide, by decide⟩
  · split
    · exact ⟨by decide, by decide⟩
    · constructor <;> simp only <;> omega
theorem tm_i64 {l : List Inst} : ∀ (i k : Nat), i ≤ l.length → i64r (tmUpto l i k)
  | 0, k, _ => by simp [tmUpto, i64r]
  | i + 1, k, h => by
    rw [tmUpto_succ (by omega)]
    split
    · exact satMul_i64
    · exact tm_i64 i k (by omega)

theorem load_ptr {ti : Option TI} {h : Nat → Option Blk} {b r c : Nat} : loadA ti h (some (.ptr b r c)) = match rowOf h b r with
    | some row => packA ti (row.drop c)
    | none => none := rfl
theorem rowOf_eq {h : Nat → Option Blk} {b r : Nat} : rowOf h b r = match h b with
  | some (.rows _ rs) => rs[r]?
  | _ => none := rfl
theorem intRows_get {ns : List Int} {i : Nat} (h : i < ns.length) : (intRows ns)[i]? = some [.int .i64 ns[i]] := by simp [intRows, h]
theorem intRows_set {ns : List Int} {i : Nat} {v : Int} : (intRows ns).set i [.int .i64 v] = intRows (ns.set i v) := by simp [intRows, List.map_set]
theorem intRows_replicate {n : Nat} {v : Int} : List.replicate n [DV.int .i64 v] = intRows (List.replicate n v) := by simp [intRows]

theorem s_times2 (l : List Inst) (hl : l.length ≤ 24) (hx : ∀ x ∈ l, x.ok) (hr : RepIn l) : Pure Try.prog 70 [.fz 4 (instRows l)] (.fz 1 (intRows (costTimes l))) := by
  refine Spec.walk ok70 fun C Q hP hN hQ => ?_
  unfold c70
  have hc : (0 : Int) ≤ l.length ∧ (l.length : Int) * ((8 : Nat) : Int) ≤ 281474976710656 := by omega
  simp only [EV, EX, hP, reduceIte, Nat.reduceEqDiff, Nat.reduceAdd, Nat.reduceSub, binA, IN, len_fz ty34, len_sl ty26, instRows_length, mkslA, elTI_eq ty26, ty2, true_and, and_self, hc, Int.toNat_natCast, cellsOf, intRows_replicate]
  have hlow : ∀ n : Nat, C.N0 n → n < 49 := fun n hn => absurd (hN n hn) (by omega)
  refine LoopW.by (fun i => ⟨[(13, some (.int .i64 (i : Nat))), (3, some (.sl 1 48 0 l.length)), (12, some (.int .i64 l.length)), (0, some (.fz 4 (instRows l)))], [(48, some (.rows 1 (intRows (List.replicate i 1 ++ List.replicate (l.length - i) 0))))], 64⟩) (fun i => i ≤ l.length) (fun i => l.length - i) 0 (Nat.zero_le _) ?_ ?_
  · refine Sub.keep 49 hlow (Nat.le_of_ble_eq_true rfl) (Nat.le_of_ble_eq_true rfl) ?_ ?_
    · simp only [kpT, EV, EX, hP, reduceIte, Nat.reduceEqDiff, Nat.reduceAdd, Nat.reduceSub, low, instRows_plain, and_self, and_true, true_and, Nat.reduceLT, decide_true]
      rfl
    · simp only [kpH, blk_mk, EV, EX, hP, reduceIte, Nat.reduceEqDiff, Nat.reduceAdd, Nat.reduceSub, lowB, lowR_of_plain _ (intRows_plain _), and_self, and_true, true_and, Nat.reduceLT, List.replicate_zero, Nat.sub_zero]
  · intro i hi N hN'
    simp only [EV, EX, hP, reduceIte, Nat.reduceEqDiff, Nat.reduceAdd, Nat.reduceSub, binA, IN]
    refine condS_d (fun h => ?_) (fun h => ?_)
    · have hb : (0 : Int) ≤ i ∧ (i : Int) < l.length := by omega
      have hlen : i < (List.replicate i (1 : Int) ++ List.replicate (l.length - i) 0).length := by simp; omega
      have hset : (List.replicate i (1 : Int) ++ List.replicate (l.length - i) 0).set i 1 = List.replicate (i + 1) 1 ++ List.replicate (l.length - (i + 1)) 0 := by
        rw [List.set_append_right _ _ (by simp)]
        simp only [List.length_replicate, Nat.sub_self]
        rw [show l.length - i = (l.length - (i + 1)) + 1 from by omega, List.replicate_succ, List.set_cons_zero, List.replicate_succ', List.append_assoc]
        rfl
      simp only [EV, EX, hP, reduceIte, Nat.reduceEqDiff, Nat.reduceAdd, Nat.reduceSub, binA, IN, iaddr_sl, elSize_eq ty26 ty2, hb, and_self, Int.toNat_natCast, Nat.zero_add, storeA, blk_mk, ty2, intRows_get hlen, cellsOf, List.length_cons, List.length_nil, List.all_cons, List.all_nil, cellD, Nat.le_refl, Bool.and_self,
        putCells, List.set_cons_zero, intRows_set, hset]
      refine hN' _ (i + 1) (by omega) (by omega) (Sub.keep 49 hlow (Nat.le_of_ble_eq_true rfl) (Nat.le_of_ble_eq_true rfl) ?_ ?_)
      · simp only [kpT, EV, EX, hP, reduceIte, Nat.reduceEqDiff, Nat.reduceAdd, Nat.reduceSub, low, instRows_plain, and_self, and_true, true_and, Nat.reduceLT, decide_true]
        rw [wrap_i64 (by omega) (by omega)]; rfl
      · simp only [kpH, blk_mk, EV, EX, hP, reduceIte, Nat.reduceEqDiff, Nat.reduceAdd, Nat.reduceSub, lowB, lowR_of_plain _ (intRows_plain _), and_self, and_true, true_and, Nat.reduceLT]
    · have hi2 : i = l.length := by omega
      subst hi2
      simp only [EV, EX, hP, reduceIte, Nat.reduceEqDiff, Nat.reduceAdd, Nat.reduceSub, binA, IN, len_fz ty34, instRows_length]
      refine LoopW.by (fun i => ⟨[(22, some (.int .i64 (i : Nat))), (3, some (.sl 1 48 0 l.length)), (21, some (.int .i64 l.length)), (20, some (.fz 4 (instRows l)))], [(48, some (.rows 1 (intRows ((List.range l.length).map (tmUpto l i)))))], 64⟩) (fun i => i ≤ l.length) (fun i => l.length - i) 0 (Nat.zero_le _) ?_ ?_
      · refine Sub.keep 49 hlow (Nat.le_of_ble_eq_true rfl) (Nat.le_of_ble_eq_true rfl) ?_ ?_
        · simp only [kpT, EV, EX, hP, reduceIte, Nat.reduceEqDiff, Nat.reduceAdd, Nat.reduceSub, low, instRows_plain, and_self, and_true, true_and, Nat.reduceLT, decide_true]
          rfl
        · have e : (List.range l.length).map (tmUpto l 0) = List.replicate l.length 1 ++ List.replicate (l.length - l.length) 0 := by
            rw [Nat.sub_self, List.replicate_zero, List.append_nil, List.eq_replicate_iff]
            exact ⟨by simp, fun b hb => by obtain ⟨k, _, rfl⟩ := List.mem_map.1 hb; simp [tmUpto]⟩
          simp only [kpH, blk_mk, EV, EX, hP, reduceIte, Nat.reduceEqDiff, Nat.reduceAdd, Nat.reduceSub, lowB, lowR_of_plain _ (intRows_plain _), and_self, and_true, true_and, Nat.reduceLT, e]
      · intro i hi N hN'
        simp only [EV, EX, hP, reduceIte, Nat.reduceEqDiff, Nat.reduceAdd, Nat.reduceSub, binA, IN]
        refine condS_d (fun h => ?_) (fun h => ?_)
        · have hi2 : i < l.length := by omega
          have hb : (0 : Int) ≤ i ∧ (i : Int) < l.length := by omega
          simp only [EV, EX, hP, reduceIte, Nat.reduceEqDiff, Nat.reduceAdd, Nat.reduceSub, binA, IN, iaddr_fz, elSize_eq ty34 ty60, hb, and_self, Int.toNat_natCast, instRows_length, instRows_getD hi2, load_fp, load_ptr, rowOf_eq, ty60, ty3, packA, TK.isAgg, Inst.row, List.length_cons, List.length_nil, Nat.reduceLeDiff,
            List.take_succ_cons, List.take_zero, List.drop_zero, List.drop_succ_cons, allocA, storeA, faddrA, blk_mk, cellsOf, List.getElem?_cons_zero, List.getElem?_cons_succ, List.all_cons, List.all_nil, cellD, Bool.and_self, and_self, putCells, List.set_cons_zero, List.set_cons_succ, Nat.zero_add]
          refine condS_i (fun h8 => ?_) (fun h8 => ?_)
          · have h8 : ¬ l[i].op = 8 := by simpa using h8
            simp only [EV, EX, hP, reduceIte, Nat.reduceEqDiff, Nat.reduceAdd, Nat.reduceSub, binA, IN]
            refine hN' _ (i + 1) (by omega) (by omega) (Sub.keep 49 hlow (Nat.le_of_ble_eq_true rfl) (Nat.le_of_ble_eq_true rfl) ?_ ?_)
            · simp only [kpT, EV, EX, hP, reduceIte, Nat.reduceEqDiff, Nat.reduceAdd, Nat.reduceSub, low, instRows_plain, and_self, and_true, true_and, Nat.reduceLT, decide_true]
              rw [wrap_i64 (by omega) (by omega)]; rfl
            · have e : tmUpto l (i + 1) = tmUpto l i := funext fun k => by rw [tmUpto_succ hi2, if_neg (fun x => h8 x.1)]
              simp only [kpH, blk_mk, EV, EX, hP, reduceIte, Nat.reduceEqDiff, Nat.reduceAdd, Nat.reduceSub, lowB, lowR_of_plain _ (intRows_plain _), and_self, and_true, true_and, Nat.reduceLT, e]
          · have h8 : l[i].op = 8 := by simpa using h8
            simp only [EV, EX, hP, reduceIte, Nat.reduceEqDiff, Nat.reduceAdd, Nat.reduceSub, binA, IN]
            have hbn := hr i l[i] (by simp [hi2]) h8
            have hbr := (hx l[i] (List.getElem_mem hi2)).2.2.1
            have hnr := (hx l[i] (List.getElem_mem hi2)).2.2.2
            unfold i64r at hbr
            have hlow2 : ∀ n : Nat, C.N0 n → n < 129 := fun n hn => absurd (hN n hn) (by omega)
            have w1 : IntKind.i64.wrap ((i : Int) + 1) = i + 1 := wrap_i64 (by omega) (by omega)
            have w2 : IntKind.i64.wrap ((i : Int) + l[i].b) = i + l[i].b := wrap_i64 (by omega) (by omega)
            simp only [w1]
            refine LoopW.by (fun j => ⟨[(7, some (.int .i64 ((i : Int) + 1 + (j : Nat)))), (5, some (.int .i64 i)), (6, some (.ptr 128 0 0)), (22, some (.int .i64 i)), (3, some (.sl 1 48 0 l.length)), (21, some (.int .i64 l.length)), (20, some (.fz 4 (instRows l)))],
              [(48, some (.rows 1 (intRows (tmIn l i l[i].n j)))), (128, some (.rows 4 [[.int .i64 l[i].op, .int .i64 l[i].a, .int .i64 l[i].b, .int .i64 l[i].n]]))], 144⟩) (fun j => j = 0 ∨ (j : Int) ≤ l[i].b) (fun j => l.length - j) 0 (.inl rfl) ?_ ?_
            · refine Sub.keep 129 hlow2 (Nat.le_of_ble_eq_true rfl) (Nat.le_of_ble_eq_true rfl) ?_ ?_
              · simp only [kpT, EV, EX, hP, reduceIte, Nat.reduceEqDiff, Nat.reduceAdd, Nat.reduceSub, low, instRows_plain, and_self, and_true, true_and, Nat.reduceLT, decide_true]
                rw [show ((i : Int) + 1 + ((0 : Nat) : Int)) = i + 1 from by omega]
              · simp only [kpH, blk_mk, EV, EX, hP, reduceIte, Nat.reduceEqDiff, Nat.reduceAdd, Nat.reduceSub, lowB, lowR_of_plain _ (intRows_plain _), and_self, and_true, true_and, Nat.reduceLT, tmIn_zero, lowR, lowL, low, Bool.and_self]
            · intro j hj N2 hN2
              simp only [EV, EX, hP, reduceIte, Nat.reduceEqDiff, Nat.reduceAdd, Nat.reduceSub, binA, IN, faddrA, ty60, ty3, load_ptr, rowOf_eq, blk_mk, packA, TK.isAgg, List.getElem?_cons_zero, List.getElem?_cons_succ, List.drop_succ_cons, List.drop_zero, Nat.zero_add, Nat.add_zero, w2]
              refine condS_d (fun h9 => ?_) (fun h9 => ?_)
              · have hk : i + 1 + j < l.length := by omega
                have hkb : (0 : Int) ≤ (i : Int) + 1 + j ∧ (i : Int) + 1 + j < l.length := by omega
                have hkn : ((i : Int) + 1 + j).toNat = i + 1 + j := by omega
                have hk2 : i + 1 + j < (tmIn l i l[i].n j).length := by rw [tmIn_length]; exact hk
                simp only [EV, EX, hP, reduceIte, Nat.reduceEqDiff, Nat.reduceAdd, Nat.reduceSub, DR, DX, Nat.reduceMul, keysU, iaddr_sl, elSize_eq ty26 ty2, hkb, and_self, hkn, Nat.zero_add, load_ptr, rowOf_eq, blk_mk, intRows_get hk2, ty2, packA, TK.isAgg, List.drop_zero, List.getElem?_cons_zero, List.getElem?_cons_succ,
                  faddrA, ty60, ty3, Nat.add_zero, List.drop_succ_cons, tmIn_get]
                refine callD_pure hP (s_Mul _ _ (tm_i64 i _ (by omega)) hnr) rfl rfl ?_
                simp only [EV, EX, hP, reduceIte, Nat.reduceEqDiff, Nat.reduceAdd, Nat.reduceSub, DR, DX, Nat.reduceMul, keysU, extA, iaddr_sl, elSize_eq ty26 ty2, hkb, and_self, hkn, Nat.zero_add, storeA, rowOf_eq, blk_mk, intRows_get hk2, ty2, cellsOf, List.getElem?_cons_zero, List.getElem?_cons_succ, List.length_cons, List.length_nil, List.all_cons, List.all_nil, cellD, Nat.le_refl, Bool.and_self,
                  putCells, List.set_cons_zero, intRows_set, tmIn_set, drF_eq, List.map_cons, List.map_nil]
                refine ⟨by kernel_rfl, ?_⟩
                simp only [EV, EX, hP, reduceIte, Nat.reduceEqDiff, Nat.reduceAdd, Nat.reduceSub, binA, IN]
                refine hN2 _ (j + 1) (.inr (by omega)) (by omega) (Sub.keep 129 hlow2 (Nat.le_of_ble_eq_true rfl) (Nat.le_of_ble_eq_true rfl) ?_ ?_)
                · simp only [kpT, EV, EX, hP, reduceIte, Nat.reduceEqDiff, Nat.reduceAdd, Nat.reduceSub, low, instRows_plain, and_self, and_true, true_and, Nat.reduceLT, decide_true]
                  rw [wrap_i64 (by omega) (by omega), show ((i : Int) + 1 + j + 1) = i + 1 + ((j + 1 : Nat) : Int) from by omega]
                · simp only [kpH, blk_mk, EV, EX, hP, reduceIte, Nat.reduceEqDiff, Nat.reduceAdd, Nat.reduceSub, lowB, lowR_of_plain _ (intRows_plain _), and_self, and_true, true_and, Nat.reduceLT, lowR, lowL, low, Bool.and_self]
              · simp only [EV, EX, hP, reduceIte, Nat.reduceEqDiff, Nat.reduceAdd, Nat.reduceSub, binA, IN]
                refine hN' _ (i + 1) (by omega) (by omega) (Sub.keep 49 hlow (Nat.le_of_ble_eq_true rfl) (Nat.le_of_ble_eq_true rfl) ?_ ?_)
                · simp only [kpT, EV, EX, hP, reduceIte, Nat.reduceEqDiff, Nat.reduceAdd, Nat.reduceSub, low, instRows_plain, and_self, and_true, true_and, Nat.reduceLT, decide_true, w1]
                  rfl
                · have e : tmIn l i l[i].n j = (List.range l.length).map (tmUpto l (i + 1)) := by
                    apply List.map_congr_left
                    intro k _
                    rw [tmUpto_succ hi2]
                    by_cases h10 : i < k ∧ k < i + 1 + j
                    · rw [if_pos h10, if_pos ⟨h8, h10.1, by omega⟩]
                    · rw [if_neg h10, if_neg (fun x => h10 ⟨x.2.1, by omega⟩)]
                  simp only [kpH, blk_mk, EV, EX, hP, reduceIte, Nat.reduceEqDiff, Nat.reduceAdd, Nat.reduceSub, lowB, lowR_of_plain _ (intRows_plain _), and_self, and_true, true_and, Nat.reduceLT, e]
        · have hi3 : i = l.length := by omega
          subst hi3
          simp only [EV, EX, hP, reduceIte, Nat.reduceEqDiff, Nat.reduceAdd, Nat.reduceSub, binA, IN]
          refine hQ _ ⟨⟨0, [], [], [48]⟩, [.sl 1 48 0 l.length], [.fz 1 (intRows (costTimes l))], [], rfl, Nat.le_refl _, rfl, .cons _ _ _ _ (Tl.freeze (rs := intRows (costTimes l)) (by simp) rfl (by simp [intRows, costTimes]) ?_ (intRows_plain _) ?_) .nil, trivial, rfl, rfl⟩
          · rw [List.drop_zero, List.take_of_length_le (by simp [intRows, costTimes])]
          · intro r hr; obtain ⟨x, _, rfl⟩ := List.mem_map.1 hr; rfl
end Go.Fv
/- MADE BY PROGRAM (wip/tools/codes.py). -/
namespace Go.Fv
open Go.Proofs
def c59 : SC :=
(.seq
(.rg [⟨(some 2), (.mv (.c (.bool false))), none⟩])
(.seq
(.seq
(.rg [⟨(some 15), (.mv (.t 0)), none⟩, ⟨(some 16), (.len 34 (.t 15)), none⟩, ⟨(some 17), (.bin .lss 3 (.t 16) (.c (.int .i64 1))), none⟩, ⟨(some 18), (.mv (.t 17)), none⟩, ⟨(some 19), (.mv (.t 0)), (some (18, false))⟩, ⟨(some 20), (.len 34 (.t 19)), (some (18, false))⟩, ⟨(some 21), (.bin .gtr 3 (.t 20) (.c (.int .i64 24))), (some (18, false))⟩, ⟨(some 22), (.pick (.t 18) (.c (.bool true)) (.t 21)), none⟩])
(.cond (.t 22)
(.seq
(.rg [⟨(some 2), (.mv (.c (.bool false))), none⟩])
.ret)
.skip))
(.seq
(.seq
(.rg [⟨(some 3), (.mv (.c (.int .i64 0))), none⟩])
(.block 0
(.loop
(.seq
(.seq
(.rg [⟨(some 23), (.mv (.t 3)), none⟩, ⟨(some 24), (.mv (.t 0)), none⟩, ⟨(some 25), (.len 34 (.t 24)), none⟩, ⟨(some 26), (.bin .lss 3 (.t 23) (.t 25)), none⟩])
(.cond (.t 26)
.skip
(.exit 0)))
(.seq
(.block 1
(.seq
(.rg [⟨(some 29), (.mv (.t 0)), none⟩, ⟨(some 30), (.mv (.t 3)), none⟩, ⟨(some 31), (.iaddr 34 (.t 29) (.t 30)), none⟩, ⟨(some 32), (.load 60 (.t 31)), none⟩, ⟨(some 33), (.call (.c (.fn 81 [] [])) [(.t 32)]), none⟩, ⟨(some 34), (.un .not (.t 33)), none⟩, ⟨(some 35), (.mv (.t 34)), none⟩, ⟨(some 36), (.mv (.t 0)), (some (35, false))⟩, ⟨(some 37), (.mv (.t 3)), (some (35, false))⟩, ⟨(some 38), (.iaddr 34 (.t 36) (.t 37)), (some (35, false))⟩, ⟨(some 39), (.faddr 60 (.t 38) 0), (some (35, false))⟩, ⟨(some 40), (.load 3 (.t 39)), (some (35, false))⟩, ⟨(some 41), (.bin .eql 3 (.t 40) (.c (.int .i64 0))), (some (35, false))⟩, ⟨(some 42), (.mv (.t 3)), (some (35, false))⟩, ⟨(some 43), (.mv (.t 0)), (some (35, false))⟩, ⟨(some 44), (.len 34 (.t 43)), (some (35, false))⟩, ⟨(some 45), (.bin .sub 3 (.t 44) (.c (.int .i64 1))), (some (35, false))⟩, ⟨(some 46), (.bin .eql 3 (.t 42) (.t 45)), (some (35, false))⟩, ⟨(some 47), (.bin .neq 4 (.t 41) (.t 46)), (some (35, false))⟩, ⟨(some 48), (.pick (.t 35) (.c (.bool true)) (.t 47)), none⟩])
(.cond (.t 48)
(.seq
(.rg [⟨(some 2), (.mv (.c (.bool false))), none⟩])
.ret)
.skip)))
(.rg [⟨(some 27), (.mv (.t 3)), none⟩, ⟨(some 28), (.bin .add 3 (.t 27) (.c (.int .i64 1))), none⟩, ⟨(some 3), (.mv (.t 28)), none⟩]))))))
(.seq
(.rg [⟨(some 49), (.mv (.t 0)), none⟩, ⟨(some 50), (.call (.c (.fn 82 [] [])) [(.t 49)]), none⟩, ⟨(some 4), (.mv (.t 50)), none⟩])
(.seq
(.seq
(.rg [⟨(some 5), (.mv (.c (.int .i64 0))), none⟩])
(.block 2
(.loop
(.seq
(.seq
(.rg [⟨(some 51), (.mv (.t 5)), none⟩, ⟨(some 52), (.mv (.t 4)), none⟩, ⟨(some 53), (.len 111 (.t 52)), none⟩, ⟨(some 54), (.bin .lss 3 (.t 51) (.t 53)), none⟩])
(.cond (.t 54)
.skip
(.exit 2)))
(.seq
(.block 3
(.seq
(.seq
(.rg [⟨(some 57), (.mv (.t 4)), none⟩, ⟨(some 58), (.mv (.t 5)), none⟩, ⟨(some 59), (.iaddr 111 (.t 57) (.t 58)), none⟩, ⟨(some 60), (.faddr 114 (.t 59) 1), none⟩, ⟨(some 61), (.load 3 (.t 60)), none⟩, ⟨(some 62), (.mv (.t 0)), none⟩, ⟨(some 63), (.len 34 (.t 62)), none⟩, ⟨(some 64), (.bin .sub 3 (.t 63) (.c (.int .i64 1))), none⟩, ⟨(some 65), (.bin .geq 3 (.t 61) (.t 64)), none⟩])
(.cond (.t 65)
(.seq
(.rg [⟨(some 2), (.mv (.c (.bool false))), none⟩])
.ret)
.skip))
(.seq
(.rg [⟨(some 6), (.mv (.c (.int .i64 0))), none⟩])
(.block 4
(.loop
(.seq
(.seq
(.rg [⟨(some 66), (.mv (.t 6)), none⟩, ⟨(some 67), (.mv (.t 4)), none⟩, ⟨(some 68), (.len 111 (.t 67)), none⟩, ⟨(some 69), (.bin .lss 3 (.t 66) (.t 68)), none⟩])
(.cond (.t 69)
.skip
(.exit 4)))
(.seq
(.block 5
(.seq
(.seq
(.rg [⟨(some 72), (.mv (.t 5)), none⟩, ⟨(some 73), (.mv (.t 6)), none⟩, ⟨(some 74), (.bin .eql 3 (.t 72) (.t 73)), none⟩])
(.cond (.t 74)
(.exit 5)
.skip))
(.seq
(.dr [⟨(some 75), (.mv (.t 4)), none⟩, ⟨(some 76), (.mv (.t 5)), none⟩, ⟨(some 77), (.iaddr 111 (.t 75) (.t 76)), none⟩, ⟨(some 78), (.faddr 114 (.t 77) 1), none⟩, ⟨(some 79), (.load 3 (.t 78)), none⟩, ⟨(some 80), (.mv (.t 4)), none⟩, ⟨(some 81), (.mv (.t 6)), none⟩, ⟨(some 82), (.iaddr 111 (.t 80) (.t 81)), none⟩, ⟨(some 83), (.faddr 114 (.t 82) 0), none⟩, ⟨(some 84), (.load 3 (.t 83)), none⟩, ⟨(some 85), (.bin .lss 3 (.t 79) (.t 84)), none⟩, ⟨(some 86), (.mv (.t 85)), none⟩, ⟨(some 87), (.mv (.t 4)), (some (86, false))⟩, ⟨(some 88), (.mv (.t 6)), (some (86, false))⟩, ⟨(some 89), (.iaddr 111 (.t 87) (.t 88)), (some (86, false))⟩, ⟨(some 90), (.faddr 114 (.t 89) 1), (some (86, false))⟩, ⟨(some 91), (.load 3 (.t 90)), (some (86, false))⟩, ⟨(some 92), (.mv (.t 4)), (some (86, false))⟩, ⟨(some 93), (.mv (.t 5)), (some (86, false))⟩, ⟨(some 94), (.iaddr 111 (.t 92) (.t 93)), (some (86, false))⟩, ⟨(some 95), (.faddr 114 (.t 94) 0), (some (86, false))⟩, ⟨(some 96), (.load 3 (.t 95)), (some (86, false))⟩, ⟨(some 97), (.bin .lss 3 (.t 91) (.t 96)), (some (86, false))⟩, ⟨(some 98), (.pick (.t 86) (.c (.bool true)) (.t 97)), none⟩, ⟨(some 7), (.mv (.t 98)), none⟩] [[], [], [0, 1], [2], [3], [], [], [5, 6], [7], [8], [4, 9], [10], [11], [11], [12, 13, 11], [14, 11], [15, 11], [11], [11], [17, 18, 11], [19, 11], [20, 11], [16, 21, 11], [11, 22], [23, 11, 0, 1, 2, 3, 4, 5, 6, 7, 8, 9, 10, 11, 12, 13, 14, 15, 16, 17, 18, 19, 20, 21, 22, 23]])
(.seq
(.dr [⟨(some 99), (.mv (.t 4)), none⟩, ⟨(some 100), (.mv (.t 5)), none⟩, ⟨(some 101), (.iaddr 111 (.t 99) (.t 100)), none⟩, ⟨(some 102), (.faddr 114 (.t 101) 0), none⟩, ⟨(some 103), (.load 3 (.t 102)), none⟩, ⟨(some 104), (.mv (.t 4)), none⟩, ⟨(some 105), (.mv (.t 6)), none⟩, ⟨(some 106), (.iaddr 111 (.t 104) (.t 105)), none⟩, ⟨(some 107), (.faddr 114 (.t 106) 0), none⟩, ⟨(some 108), (.load 3 (.t 107)), none⟩, ⟨(some 109), (.bin .leq 3 (.t 103) (.t 108)), none⟩, ⟨(some 110), (.mv (.t 109)), none⟩, ⟨(some 111), (.mv (.t 4)), (some (110, true))⟩, ⟨(some 112), (.mv (.t 6)), (some (110, true))⟩, ⟨(some 113), (.iaddr 111 (.t 111) (.t 112)), (some (110, true))⟩, ⟨(some 114), (.faddr 114 (.t 113) 1), (some (110, true))⟩, ⟨(some 115), (.load 3 (.t 114)), (some (110, true))⟩, ⟨(some 116), (.mv (.t 4)), (some (110, true))⟩, ⟨(some 117), (.mv (.t 5)), (some (110, true))⟩, ⟨(some 118), (.iaddr 111 (.t 116) (.t 117)), (some (110, true))⟩, ⟨(some 119), (.faddr 114 (.t 118) 1), (some (110, true))⟩, ⟨(some 120), (.load 3 (.t 119)), (some (110, true))⟩, ⟨(some 121), (.bin .leq 3 (.t 115) (.t 120)), (some (110, true))⟩, ⟨(some 122), (.pick (.t 110) (.t 121) (.c (.bool false))), none⟩, ⟨(some 123), (.mv (.t 122)), none⟩, ⟨(some 124), (.mv (.t 4)), (some (123, false))⟩, ⟨(some 125), (.mv (.t 6)), (some (123, false))⟩, ⟨(some 126), (.iaddr 111 (.t 124) (.t 125)), (some (123, false))⟩, ⟨(some 127), (.faddr 114 (.t 126) 0), (some (123, false))⟩, ⟨(some 128), (.load 3 (.t 127)), (some (123, false))⟩, ⟨(some 129), (.mv (.t 4)), (some (123, false))⟩, ⟨(some 130), (.mv (.t 5)), (some (123, false))⟩, ⟨(some 131), (.iaddr 111 (.t 129) (.t 130)), (some (123, false))⟩, ⟨(some 132), (.faddr 114 (.t 131) 0), (some (123, false))⟩, ⟨(some 133), (.load 3 (.t 132)), (some (123, false))⟩, ⟨(some 134), (.bin .leq 3 (.t 128) (.t 133)), (some (123, false))⟩, ⟨(some 135), (.mv (.t 134)), (some (123, false))⟩, ⟨(some 136), (.mv (.t 4)), (some (135, true))⟩, ⟨(some 137), (.mv (.t 5)), (some (135, true))⟩, ⟨(some 138), (.iaddr 111 (.t 136) (.t 137)), (some (135, true))⟩, ⟨(some 139), (.faddr 114 (.t 138) 1), (some (135, true))⟩, ⟨(some 140), (.load 3 (.t 139)), (some (135, true))⟩, ⟨(some 141), (.mv (.t 4)), (some (135, true))⟩, ⟨(some 142), (.mv (.t 6)), (some (135, true))⟩, ⟨(some 143), (.iaddr 111 (.t 141) (.t 142)), (some (135, true))⟩, ⟨(some 144), (.faddr 114 (.t 143) 1), (some (135, true))⟩, ⟨(some 145), (.load 3 (.t 144)), (some (135, true))⟩, ⟨(some 146), (.bin .leq 3 (.t 140) (.t 145)), (some (135, true))⟩, ⟨(some 147), (.pick (.t 135) (.t 146) (.c (.bool false))), (some (123, false))⟩, ⟨(some 148), (.pick (.t 123) (.c (.bool true)) (.t 147)), none⟩, ⟨(some 8), (.mv (.t 148)), none⟩] [[], [], [0, 1], [2], [3], [], [], [5, 6], [7], [8], [4, 9], [10], [11], [11], [12, 13, 11], [14, 11], [15, 11], [11], [11], [17, 18, 11], [19, 11], [20, 11], [16, 21, 11], [11, 22], [23, 11], [24], [24], [25, 26, 24], [27, 24], [28, 24], [24], [24], [30, 31, 24], [32, 24], [33, 24], [29, 34, 24], [35, 24, 24], [36], [36], [37, 38, 36], [39, 36], [40, 36], [36], [36], [42, 43, 36], [44, 36], [45, 36], [41, 46, 36], [36, 47, 24], [24, 48], [49, 36, 0, 1, 2, 3, 4, 5, 6, 7, 8, 9, 10, 11, 12, 13, 14, 15, 16, 17, 18, 19, 20, 21, 22, 23, 24, 25, 26, 27, 28, 29, 30, 31, 32, 33, 34, 35, 36, 37, 38, 39, 40, 41, 42, 43, 44, 45, 46, 47, 48, 49]])
(.seq
(.dr [⟨(some 149), (.mv (.t 7)), none⟩, ⟨(some 150), (.un .not (.t 149)), none⟩, ⟨(some 151), (.mv (.t 150)), none⟩, ⟨(some 152), (.mv (.t 8)), (some (151, true))⟩, ⟨(some 153), (.un .not (.t 152)), (some (151, true))⟩, ⟨(some 154), (.pick (.t 151) (.t 153) (.c (.bool false))), none⟩, ⟨(some 155), (.mv (.t 154)), none⟩, ⟨(some 156), (.mv (.t 4)), (some (155, false))⟩, ⟨(some 157), (.mv (.t 5)), (some (155, false))⟩, ⟨(some 158), (.iaddr 111 (.t 156) (.t 157)), (some (155, false))⟩, ⟨(some 159), (.load 114 (.t 158)), (some (155, false))⟩, ⟨(some 160), (.mv (.t 4)), (some (155, false))⟩, ⟨(some 161), (.mv (.t 6)), (some (155, false))⟩, ⟨(some 162), (.iaddr 111 (.t 160) (.t 161)), (some (155, false))⟩, ⟨(some 163), (.faddr 114 (.t 162) 2), (some (155, false))⟩, ⟨(some 164), (.load 3 (.t 163)), (some (155, false))⟩, ⟨(some 165), (.call (.c (.fn 83 [] [])) [(.t 159), (.t 164)]), (some (155, false))⟩, ⟨(some 166), (.mv (.t 165)), (some (155, false))⟩, ⟨(some 167), (.mv (.t 4)), (some (166, true))⟩, ⟨(some 168), (.mv (.t 6)), (some (166, true))⟩, ⟨(some 169), (.iaddr 111 (.t 167) (.t 168)), (some (166, true))⟩, ⟨(some 170), (.faddr 114 (.t 169) 1), (some (166, true))⟩, ⟨(some 171), (.load 3 (.t 170)), (some (166, true))⟩, ⟨(some 172), (.mv (.t 4)), (some (166, true))⟩, ⟨(some 173), (.mv (.t 5)), (some (166, true))⟩, ⟨(some 174), (.iaddr 111 (.t 172) (.t 173)), (some (166, true))⟩, ⟨(some 175), (.faddr 114 (.t 174) 1), (some (166, true))⟩, ⟨(some 176), (.load 3 (.t 175)), (some (166, true))⟩, ⟨(some 177), (.bin .gtr 3 (.t 171) (.t 176)), (some (166, true))⟩, ⟨(some 178), (.pick (.t 166) (.t 177) (.c (.bool false))), (some (155, false))⟩, ⟨(some 179), (.pick (.t 155) (.c (.bool true)) (.t 178)), none⟩] [[], [0], [1], [2], [3, 2], [2, 4], [5, 2], [6], [6], [7, 8, 6], [9, 6], [6], [6], [11, 12, 6], [13, 6], [14, 6], [10, 15, 6, 6], [16, 16, 6], [17], [17], [18, 19, 17], [20, 17], [21, 17], [17], [17], [23, 24, 17], [25, 17], [26, 17], [22, 27, 17], [17, 28, 6], [6, 29]])
(.cond (.t 179)
(.seq
(.rg [⟨(some 2), (.mv (.c (.bool false))), none⟩])
.ret)
.skip))))))
(.rg [⟨(some 70), (.mv (.t 6)), none⟩, ⟨(some 71), (.bin .add 3 (.t 70) (.c (.int .i64 1))), none⟩, ⟨(some 6), (.mv (.t 71)), none⟩]))))))))
(.rg [⟨(some 55), (.mv (.t 5)), none⟩, ⟨(some 56), (.bin .add 3 (.t 55) (.c (.int .i64 1))), none⟩, ⟨(some 5), (.mv (.t 56)), none⟩]))))))
(.seq
(.rg [⟨(some 181), (.mv (.t 0)), none⟩, ⟨(some 182), (.call (.c (.fn 61 [] [])) [(.t 181)]), none⟩, ⟨(some 180), (.mv (.t 182)), none⟩, ⟨(some 183), (.ext (.t 180) 0), none⟩, ⟨(some 184), (.ext (.t 180) 1), none⟩, ⟨(some 9), (.mv (.t 183)), none⟩, ⟨(some 10), (.mv (.t 184)), none⟩])
(.seq
(.seq
(.rg [⟨(some 185), (.mv (.t 10)), none⟩, ⟨(some 186), (.un .not (.t 185)), none⟩])
(.cond (.t 186)
(.seq
(.rg [⟨(some 2), (.mv (.c (.bool false))), none⟩])
.ret)
.skip))
(.seq
(.seq
(.rg [⟨(some 11), (.mv (.c (.int .i64 0))), none⟩])
(.block 6
(.loop
(.seq
(.seq
(.rg [⟨(some 187), (.mv (.t 11)), none⟩, ⟨(some 188), (.mv (.t 0)), none⟩, ⟨(some 189), (.len 34 (.t 188)), none⟩, ⟨(some 190), (.bin .lss 3 (.t 187) (.t 189)), none⟩])
(.cond (.t 190)
.skip
(.exit 6)))
(.seq
(.block 7
(.seq
(.rg [⟨(some 12), (.mv (.c (.int .i64 0))), none⟩, ⟨(some 13), (.mv (.c (.int .i64 0))), none⟩])
(.seq
(.seq
(.rg [⟨(some 14), (.mv (.c (.int .i64 0))), none⟩])
(.block 8
(.loop
(.seq
(.seq
(.rg [⟨(some 193), (.mv (.t 14)), none⟩, ⟨(some 194), (.mv (.t 4)), none⟩, ⟨(some 195), (.len 111 (.t 194)), none⟩, ⟨(some 196), (.bin .lss 3 (.t 193) (.t 195)), none⟩])
(.cond (.t 196)
.skip
(.exit 8)))
(.seq
(.block 9
(.seq
(.rg [⟨(some 199), (.mv (.t 4)), none⟩, ⟨(some 200), (.mv (.t 14)), none⟩, ⟨(some 201), (.iaddr 111 (.t 199) (.t 200)), none⟩, ⟨(some 202), (.load 114 (.t 201)), none⟩, ⟨(some 203), (.mv (.t 11)), none⟩, ⟨(some 204), (.call (.c (.fn 83 [] [])) [(.t 202), (.t 203)]), none⟩])
(.cond (.t 204)
(.seq
(.rg [⟨(some 205), (.mv (.t 13)), none⟩, ⟨(some 206), (.bin .add 3 (.t 205) (.c (.int .i64 1))), none⟩, ⟨(some 13), (.mv (.t 206)), none⟩])
(.seq
(.rg [⟨(some 207), (.mv (.t 4)), none⟩, ⟨(some 208), (.mv (.t 14)), none⟩, ⟨(some 209), (.iaddr 111 (.t 207) (.t 208)), none⟩, ⟨(some 210), (.faddr 114 (.t 209) 3), none⟩, ⟨(some 211), (.load 4 (.t 210)), none⟩])
(.cond (.t 211)
(.rg [⟨(some 212), (.mv (.t 12)), none⟩, ⟨(some 213), (.bin .add 3 (.t 212) (.c (.int .i64 1))), none⟩, ⟨(some 12), (.mv (.t 213)), none⟩])
.skip)))
.skip)))
(.rg [⟨(some 197), (.mv (.t 14)), none⟩, ⟨(some 198), (.bin .add 3 (.t 197) (.c (.int .i64 1))), none⟩, ⟨(some 14), (.mv (.t 198)), none⟩]))))))
(.seq
(.rg [⟨(some 214), (.mv (.t 12)), none⟩, ⟨(some 215), (.bin .gtr 3 (.t 214) (.c (.int .i64 2))), none⟩, ⟨(some 216), (.mv (.t 215)), none⟩, ⟨(some 217), (.mv (.t 0)), (some (216, false))⟩, ⟨(some 218), (.mv (.t 11)), (some (216, false))⟩, ⟨(some 219), (.iaddr 34 (.t 217) (.t 218)), (some (216, false))⟩, ⟨(some 220), (.faddr 60 (.t 219) 0), (some (216, false))⟩, ⟨(some 221), (.load 3 (.t 220)), (some (216, false))⟩, ⟨(some 222), (.bin .eql 3 (.t 221) (.c (.int .i64 11))), (some (216, false))⟩, ⟨(some 223), (.mv (.t 222)), (some (216, false))⟩, ⟨(some 224), (.mv (.t 13)), (some (223, true))⟩, ⟨(some 225), (.bin .gtr 3 (.t 224) (.c (.int .i64 0))), (some (223, true))⟩, ⟨(some 226), (.mv (.t 225)), (some (223, true))⟩, ⟨(some 227), (.mv (.t 0)), (some (226, false))⟩, ⟨(some 228), (.mv (.t 9)), (some (226, false))⟩, ⟨(some 229), (.mv (.t 11)), (some (226, false))⟩, ⟨(some 230), (.call (.c (.fn 84 [] [])) [(.t 227), (.t 228), (.t 229)]), (some (226, false))⟩, ⟨(some 231), (.bin .gtr 3 (.t 230) (.c (.int .i64 0))), (some (226, false))⟩, ⟨(some 232), (.pick (.t 226) (.c (.bool true)) (.t 231)), (some (223, true))⟩, ⟨(some 233), (.pick (.t 223) (.t 232) (.c (.bool false))), (some (216, false))⟩, ⟨(some 234), (.pick (.t 216) (.c (.bool true)) (.t 233)), none⟩])
(.cond (.t 234)
(.seq
(.rg [⟨(some 2), (.mv (.c (.bool false))), none⟩])
.ret)
.skip)))))
(.rg [⟨(some 191), (.mv (.t 11)), none⟩, ⟨(some 192), (.bin .add 3 (.t 191) (.c (.int .i64 1))), none⟩, ⟨(some 11), (.mv (.t 192)), none⟩]))))))
(.seq
(.rg [⟨(some 2), (.mv (.c (.bool true))), none⟩])
.ret)))))))))
theorem ok59 : FnOk Try.prog 59 c59 235 1 [(.tmp 2)] := .of Try.func59 (by kernel_rfl) (by kernel_rfl) (by kernel_rfl) (by kernel_rfl) (by kernel_rfl) (by decide) (by kernel_rfl)
def c60 : SC :=
(.seq
(.rg [⟨(some 2), (.mv (.c .nilsl)), none⟩])
(.seq
(.rg [⟨(some 7), (.mv (.t 0)), none⟩, ⟨(some 8), (.len 34 (.t 7)), none⟩, ⟨(some 9), (.mksl 26 (.t 8) (.t 8)), none⟩, ⟨(some 3), (.mv (.t 9)), none⟩])
(.seq
(.rg [⟨(some 10), (.mv (.t 0)), none⟩, ⟨(some 11), (.call (.c (.fn 82 [] [])) [(.t 10)]), none⟩, ⟨(some 4), (.mv (.t 11)), none⟩])
(.seq
(.seq
(.rg [⟨(some 5), (.mv (.c (.int .i64 0))), none⟩])
(.block 0
(.loop
(.seq
(.seq
(.rg [⟨(some 12), (.mv (.t 5)), none⟩, ⟨(some 13), (.mv (.t 0)), none⟩, ⟨(some 14), (.len 34 (.t 13)), none⟩, ⟨(some 15), (.bin .lss 3 (.t 12) (.t 14)), none⟩])
(.cond (.t 15)
.skip
(.exit 0)))
(.seq
(.block 1
(.seq
(.rg [⟨(some 18), (.mv (.t 3)), none⟩, ⟨(some 19), (.mv (.t 5)), none⟩, ⟨(some 20), (.iaddr 26 (.t 18) (.t 19)), none⟩, ⟨none, (.store 2 (.t 20) (.c (.int .i64 1))), none⟩])
(.seq
(.rg [⟨(some 6), (.mv (.c (.int .i64 0))), none⟩])
(.block 2
(.loop
(.seq
(.seq
(.rg [⟨(some 21), (.mv (.t 6)), none⟩, ⟨(some 22), (.mv (.t 4)), none⟩, ⟨(some 23), (.len 111 (.t 22)), none⟩, ⟨(some 24), (.bin .lss 3 (.t 21) (.t 23)), none⟩])
(.cond (.t 24)
.skip
(.exit 2)))
(.seq
(.block 3
(.seq
(.rg [⟨(some 27), (.mv (.t 4)), none⟩, ⟨(some 28), (.mv (.t 6)), none⟩, ⟨(some 29), (.iaddr 111 (.t 27) (.t 28)), none⟩, ⟨(some 30), (.faddr 114 (.t 29) 3), none⟩, ⟨(some 31), (.load 4 (.t 30)), none⟩, ⟨(some 32), (.mv (.t 31)), none⟩, ⟨(some 33), (.mv (.t 4)), (some (32, true))⟩, ⟨(some 34), (.mv (.t 6)), (some (32, true))⟩, ⟨(some 35), (.iaddr 111 (.t 33) (.t 34)), (some (32, true))⟩, ⟨(some 36), (.load 114 (.t 35)), (some (32, true))⟩, ⟨(some 37), (.mv (.t 5)), (some (32, true))⟩, ⟨(some 38), (.call (.c (.fn 83 [] [])) [(.t 36), (.t 37)]), (some (32, true))⟩, ⟨(some 39), (.pick (.t 32) (.t 38) (.c (.bool false))), none⟩])
(.cond (.t 39)
(.dr [⟨(some 40), (.mv (.t 3)), none⟩, ⟨(some 41), (.mv (.t 5)), none⟩, ⟨(some 42), (.mv (.t 3)), none⟩, ⟨(some 43), (.mv (.t 5)), none⟩, ⟨(some 44), (.iaddr 26 (.t 42) (.t 43)), none⟩, ⟨(some 45), (.load 2 (.t 44)), none⟩, ⟨(some 46), (.mv (.t 0)), none⟩, ⟨(some 47), (.mv (.t 4)), none⟩, ⟨(some 48), (.mv (.t 6)), none⟩, ⟨(some 49), (.iaddr 111 (.t 47) (.t 48)), none⟩, ⟨(some 50), (.faddr 114 (.t 49) 2), none⟩, ⟨(some 51), (.load 3 (.t 50)), none⟩, ⟨(some 52), (.iaddr 34 (.t 46) (.t 51)), none⟩, ⟨(some 53), (.faddr 60 (.t 52) 3), none⟩, ⟨(some 54), (.load 3 (.t 53)), none⟩, ⟨(some 55), (.bin .mul 2 (.t 45) (.t 54)), none⟩, ⟨(some 56), (.iaddr 26 (.t 40) (.t 41)), none⟩, ⟨none, (.store 2 (.t 56) (.t 55)), none⟩] [[], [], [], [], [2, 3], [4], [], [], [], [7, 8], [9], [10], [6, 11], [12], [13], [5, 14], [0, 1, 0, 1, 2, 3, 4, 5, 6, 7, 8, 9, 10, 11, 12, 13, 14, 15], [16, 15, 0, 1, 2, 3, 4, 5, 6, 7, 8, 9, 10, 11, 12, 13, 14, 15]])
.skip)))
(.rg [⟨(some 25), (.mv (.t 6)), none⟩, ⟨(some 26), (.bin .add 3 (.t 25) (.c (.int .i64 1))), none⟩, ⟨(some 6), (.mv (.t 26)), none⟩]))))))))
(.rg [⟨(some 16), (.mv (.t 5)), none⟩, ⟨(some 17), (.bin .add 3 (.t 16) (.c (.int .i64 1))), none⟩, ⟨(some 5), (.mv (.t 17)), none⟩]))))))
(.seq
(.rg [⟨(some 57), (.mv (.t 3)), none⟩, ⟨(some 2), (.mv (.t 57)), none⟩])
.ret)))))
theorem ok60 : FnOk Try.prog 60 c60 58 1 [(.tmp 2)] := .of Try.func60 (by kernel_rfl) (by kernel_rfl) (by kernel_rfl) (by kernel_rfl) (by kernel_rfl) (by decide) (by kernel_rfl)
def c61 : SC :=
(.seq
(.rg [⟨(some 2), (.mv (.c .nilsl)), none⟩, ⟨(some 3), (.mv (.c (.bool false))), none⟩])
(.seq
(.rg [⟨(some 11), (.mv (.t 0)), none⟩, ⟨(some 12), (.len 34 (.t 11)), none⟩, ⟨(some 13), (.mksl 94 (.t 12) (.t 12)), none⟩, ⟨(some 4), (.mv (.t 13)), none⟩])
(.seq
(.rg [⟨(some 5), (.mv (.c .nilsl)), none⟩])
(.seq
(.rg [⟨(some 14), (.mv (.t 0)), none⟩, ⟨(some 15), (.call (.c (.fn 82 [] [])) [(.t 14)]), none⟩, ⟨(some 6), (.mv (.t 15)), none⟩])
(.seq
(.seq
(.rg [⟨(some 7), (.mv (.c (.int .i64 0))), none⟩])
(.block 0
(.loop
(.seq
(.seq
(.rg [⟨(some 16), (.mv (.t 7)), none⟩, ⟨(some 17), (.mv (.t 0)), none⟩, ⟨(some 18), (.len 34 (.t 17)), none⟩, ⟨(some 19), (.bin .lss 3 (.t 16) (.t 18)), none⟩])
(.cond (.t 19)
.skip
(.exit 0)))
(.seq
(.block 1
(.seq
(.rg [⟨(some 22), (.mv (.t 0)), none⟩, ⟨(some 23), (.mv (.t 7)), none⟩, ⟨(some 24), (.iaddr 34 (.t 22) (.t 23)), none⟩, ⟨(some 25), (.faddr 60 (.t 24) 0), none⟩, ⟨(some 26), (.load 3 (.t 25)), none⟩])
(.block 2
(.seq
(.rg [⟨(some 28), (.bin .eql 3 (.t 26) (.c (.int .i64 9))), none⟩, ⟨(some 27), (.mv (.t 28)), none⟩])
(.cond (.t 27)
(.seq
(.seq
(.rg [⟨(some 8), (.mv (.c (.int .i64 0))), none⟩])
(.block 3
(.loop
(.seq
(.seq
(.rg [⟨(some 29), (.mv (.t 8)), none⟩, ⟨(some 30), (.mv (.t 5)), none⟩, ⟨(some 31), (.len 94 (.t 30)), none⟩, ⟨(some 32), (.bin .lss 3 (.t 29) (.t 31)), none⟩])
(.cond (.t 32)
.skip
(.exit 3)))
(.seq
(.block 4
(.seq
(.dr [⟨(some 35), (.mv (.t 0)), none⟩, ⟨(some 36), (.mv (.t 5)), none⟩, ⟨(some 37), (.mv (.t 8)), none⟩, ⟨(some 38), (.iaddr 94 (.t 36) (.t 37)), none⟩, ⟨(some 39), (.load 3 (.t 38)), none⟩, ⟨(some 40), (.iaddr 34 (.t 35) (.t 39)), none⟩, ⟨(some 41), (.faddr 60 (.t 40) 1), none⟩, ⟨(some 42), (.load 3 (.t 41)), none⟩, ⟨(some 43), (.mv (.t 0)), none⟩, ⟨(some 44), (.mv (.t 7)), none⟩, ⟨(some 45), (.iaddr 34 (.t 43) (.t 44)), none⟩, ⟨(some 46), (.faddr 60 (.t 45) 1), none⟩, ⟨(some 47), (.load 3 (.t 46)), none⟩, ⟨(some 48), (.bin .eql 3 (.t 42) (.t 47)), none⟩] [[], [], [], [1, 2], [3], [0, 4], [5], [6], [], [], [8, 9], [10], [11], [7, 12]])
(.cond (.t 48)
(.seq
(.rg [⟨(some 2), (.mv (.c .nilsl)), none⟩, ⟨(some 3), (.mv (.c (.bool false))), none⟩])
.ret)
.skip)))
(.rg [⟨(some 33), (.mv (.t 8)), none⟩, ⟨(some 34), (.bin .add 3 (.t 33) (.c (.int .i64 1))), none⟩, ⟨(some 8), (.mv (.t 34)), none⟩]))))))
(.seq
(.rg [⟨(some 49), (.mv (.t 5)), none⟩, ⟨(some 50), (.mv (.t 7)), none⟩, ⟨(some 51), (.bsl 94 1 [(0, (.t 50))]), none⟩, ⟨(some 52), (.app 94 94 (.t 49) (.t 51)), none⟩, ⟨(some 5), (.mv (.t 52)), none⟩])
(.seq
(.rg [⟨(some 53), (.mv (.t 5)), none⟩, ⟨(some 54), (.len 94 (.t 53)), none⟩, ⟨(some 55), (.bin .gtr 3 (.t 54) (.c (.int .i64 2))), none⟩])
(.cond (.t 55)
(.seq
(.rg [⟨(some 2), (.mv (.c .nilsl)), none⟩, ⟨(some 3), (.mv (.c (.bool false))), none⟩])
.ret)
.skip))))
(.seq
(.rg [⟨(some 57), (.bin .eql 3 (.t 26) (.c (.int .i64 10))), none⟩, ⟨(some 56), (.mv (.t 57)), none⟩])
(.cond (.t 56)
(.seq
(.seq
(.dr [⟨(some 58), (.mv (.t 5)), none⟩, ⟨(some 59), (.len 94 (.t 58)), none⟩, ⟨(some 60), (.bin .eql 3 (.t 59) (.c (.int .i64 0))), none⟩, ⟨(some 61), (.mv (.t 60)), none⟩, ⟨(some 62), (.mv (.t 0)), (some (61, false))⟩, ⟨(some 63), (.mv (.t 5)), (some (61, false))⟩, ⟨(some 64), (.mv (.t 5)), (some (61, false))⟩, ⟨(some 65), (.len 94 (.t 64)), (some (61, false))⟩, ⟨(some 66), (.bin .sub 3 (.t 65) (.c (.int .i64 1))), (some (61, false))⟩, ⟨(some 67), (.iaddr 94 (.t 63) (.t 66)), (some (61, false))⟩, ⟨(some 68), (.load 3 (.t 67)), (some (61, false))⟩, ⟨(some 69), (.iaddr 34 (.t 62) (.t 68)), (some (61, false))⟩, ⟨(some 70), (.faddr 60 (.t 69) 1), (some (61, false))⟩, ⟨(some 71), (.load 3 (.t 70)), (some (61, false))⟩, ⟨(some 72), (.mv (.t 0)), (some (61, false))⟩, ⟨(some 73), (.mv (.t 7)), (some (61, false))⟩, ⟨(some 74), (.iaddr 34 (.t 72) (.t 73)), (some (61, false))⟩, ⟨(some 75), (.faddr 60 (.t 74) 1), (some (61, false))⟩, ⟨(some 76), (.load 3 (.t 75)), (some (61, false))⟩, ⟨(some 77), (.bin .neq 3 (.t 71) (.t 76)), (some (61, false))⟩, ⟨(some 78), (.pick (.t 61) (.c (.bool true)) (.t 77)), none⟩] [[], [0], [1], [2], [3], [3], [3], [6, 3], [7, 3], [5, 8, 3], [9, 3], [4, 10, 3], [11, 3], [12, 3], [3], [3], [14, 15, 3], [16, 3], [17, 3], [13, 18, 3], [3, 19]])
(.cond (.t 78)
(.seq
(.rg [⟨(some 2), (.mv (.c .nilsl)), none⟩, ⟨(some 3), (.mv (.c (.bool false))), none⟩])
.ret)
.skip))
(.seq
(.rg [⟨(some 79), (.mv (.t 5)), none⟩, ⟨(some 80), (.mv (.t 5)), none⟩, ⟨(some 81), (.len 94 (.t 80)), none⟩, ⟨(some 82), (.bin .sub 3 (.t 81) (.c (.int .i64 1))), none⟩, ⟨(some 83), (.iaddr 94 (.t 79) (.t 82)), none⟩, ⟨(some 84), (.load 3 (.t 83)), none⟩, ⟨(some 9), (.mv (.t 84)), none⟩])
(.seq
(.rg [⟨(some 85), (.mv (.t 5)), none⟩, ⟨(some 86), (.mv (.t 5)), none⟩, ⟨(some 87), (.len 94 (.t 86)), none⟩, ⟨(some 88), (.bin .sub 3 (.t 87) (.c (.int .i64 1))), none⟩, ⟨(some 89), (.slice 94 (.t 85) none (some (.t 88)) none), none⟩, ⟨(some 5), (.mv (.t 89)), none⟩])
(.seq
(.seq
(.rg [⟨(some 10), (.mv (.c (.int .i64 0))), none⟩])
(.block 5
(.loop
(.seq
(.seq
(.rg [⟨(some 90), (.mv (.t 10)), none⟩, ⟨(some 91), (.mv (.t 6)), none⟩, ⟨(some 92), (.len 111 (.t 91)), none⟩, ⟨(some 93), (.bin .lss 3 (.t 90) (.t 92)), none⟩])
(.cond (.t 93)
.skip
(.exit 5)))
(.seq
(.block 6
(.seq
(.dr [⟨(some 96), (.mv (.t 6)), none⟩, ⟨(some 97), (.mv (.t 10)), none⟩, ⟨(some 98), (.iaddr 111 (.t 96) (.t 97)), none⟩, ⟨(some 99), (.load 114 (.t 98)), none⟩, ⟨(some 100), (.mv (.t 9)), none⟩, ⟨(some 101), (.call (.c (.fn 83 [] [])) [(.t 99), (.t 100)]), none⟩, ⟨(some 102), (.mv (.t 6)), none⟩, ⟨(some 103), (.mv (.t 10)), none⟩, ⟨(some 104), (.iaddr 111 (.t 102) (.t 103)), none⟩, ⟨(some 105), (.load 114 (.t 104)), none⟩, ⟨(some 106), (.mv (.t 7)), none⟩, ⟨(some 107), (.call (.c (.fn 83 [] [])) [(.t 105), (.t 106)]), none⟩, ⟨(some 108), (.bin .neq 4 (.t 101) (.t 107)), none⟩] [[], [], [0, 1], [2], [], [3, 4], [], [], [6, 7], [8], [], [9, 10, 5], [5, 11]])
(.cond (.t 108)
(.seq
(.rg [⟨(some 2), (.mv (.c .nilsl)), none⟩, ⟨(some 3), (.mv (.c (.bool false))), none⟩])
.ret)
.skip)))
(.rg [⟨(some 94), (.mv (.t 10)), none⟩, ⟨(some 95), (.bin .add 3 (.t 94) (.c (.int .i64 1))), none⟩, ⟨(some 10), (.mv (.t 95)), none⟩]))))))
(.rg [⟨(some 109), (.mv (.t 4)), none⟩, ⟨(some 110), (.mv (.t 9)), none⟩, ⟨(some 111), (.mv (.t 7)), none⟩, ⟨(some 112), (.iaddr 94 (.t 109) (.t 110)), none⟩, ⟨none, (.store 3 (.t 112) (.t 111)), none⟩])))))
.skip)))))))
(.rg [⟨(some 20), (.mv (.t 7)), none⟩, ⟨(some 21), (.bin .add 3 (.t 20) (.c (.int .i64 1))), none⟩, ⟨(some 7), (.mv (.t 21)), none⟩]))))))
(.seq
(.seq
(.rg [⟨(some 113), (.mv (.t 5)), none⟩, ⟨(some 114), (.len 94 (.t 113)), none⟩, ⟨(some 115), (.bin .gtr 3 (.t 114) (.c (.int .i64 0))), none⟩])
(.cond (.t 115)
(.seq
(.rg [⟨(some 2), (.mv (.c .nilsl)), none⟩, ⟨(some 3), (.mv (.c (.bool false))), none⟩])
.ret)
.skip))
(.seq
(.rg [⟨(some 116), (.mv (.t 4)), none⟩, ⟨(some 2), (.mv (.t 116)), none⟩, ⟨(some 3), (.mv (.c (.bool true))), none⟩])
.ret)))))))
theorem ok61 : FnOk Try.prog 61 c61 117 1 [(.tmp 2), (.tmp 3)] := .of Try.func61 (by kernel_rfl) (by kernel_rfl) (by kernel_rfl) (by kernel_rfl) (by kernel_rfl) (by decide) (by kernel_rfl)
def c63 : SC :=
(.seq
(.rg [⟨(some 2), (.mv (.c (.bool false))), none⟩])
(.seq
(.seq
(.rg [⟨(some 9), (.mv (.t 0)), none⟩, ⟨(some 10), (.len 34 (.t 9)), none⟩, ⟨(some 11), (.bin .lss 3 (.t 10) (.c (.int .i64 1))), none⟩, ⟨(some 12), (.mv (.t 11)), none⟩, ⟨(some 13), (.mv (.t 0)), (some (12, false))⟩, ⟨(some 14), (.len 34 (.t 13)), (some (12, false))⟩, ⟨(some 15), (.bin .gtr 3 (.t 14) (.c (.int .i64 24))), (some (12, false))⟩, ⟨(some 16), (.pick (.t 12) (.c (.bool true)) (.t 15)), none⟩, ⟨(some 17), (.mv (.t 16)), none⟩, ⟨(some 18), (.mv (.t 0)), (some (17, false))⟩, ⟨(some 19), (.call (.c (.fn 78 [] [])) [(.t 18), (.c (.fn 86 [] []))]), (some (17, false))⟩, ⟨(some 20), (.pick (.t 17) (.c (.bool true)) (.t 19)), none⟩])
(.cond (.t 20)
(.seq
(.rg [⟨(some 2), (.mv (.c (.bool false))), none⟩])
.ret)
.skip))
(.seq
(.rg [⟨(some 21), (.mv (.t 0)), none⟩, ⟨(some 22), (.call (.c (.fn 88 [] [])) [(.t 21), (.c (.fn 89 [] []))]), none⟩, ⟨(some 3), (.mv (.t 22)), none⟩])
(.seq
(.seq
(.rg [⟨(some 23), (.mv (.t 3)), none⟩, ⟨(some 24), (.mv (.t 0)), none⟩, ⟨(some 25), (.len 34 (.t 24)), none⟩, ⟨(some 26), (.bin .sub 3 (.t 25) (.c (.int .i64 1))), none⟩, ⟨(some 27), (.bin .neq 3 (.t 23) (.t 26)), none⟩, ⟨(some 28), (.mv (.t 27)), none⟩, ⟨(some 29), (.mv (.t 0)), (some (28, false))⟩, ⟨(some 30), (.call (.c (.fn 90 [] [])) [(.t 29)]), (some (28, false))⟩, ⟨(some 31), (.un .not (.t 30)), (some (28, false))⟩, ⟨(some 32), (.pick (.t 28) (.c (.bool true)) (.t 31)), none⟩])
(.cond (.t 32)
(.seq
(.rg [⟨(some 2), (.mv (.c (.bool false))), none⟩])
.ret)
.skip))
(.seq
(.rg [⟨(some 34), (.mv (.t 0)), none⟩, ⟨(some 35), (.call (.c (.fn 71 [] [])) [(.t 34)]), none⟩, ⟨(some 33), (.mv (.t 35)), none⟩, ⟨(some 36), (.ext (.t 33) 0), none⟩, ⟨(some 37), (.ext (.t 33) 1), none⟩, ⟨(some 4), (.mv (.t 36)), none⟩, ⟨(some 5), (.mv (.t 37)), none⟩])
(.seq
(.seq
(.rg [⟨(some 38), (.mv (.t 5)), none⟩, ⟨(some 39), (.un .not (.t 38)), none⟩])
(.cond (.t 39)
(.seq
(.rg [⟨(some 2), (.mv (.c (.bool false))), none⟩])
.ret)
.skip))
(.seq
(.rg [⟨(some 40), (.mv (.t 0)), none⟩, ⟨(some 41), (.call (.c (.fn 91 [] [])) [(.t 40)]), none⟩, ⟨(some 6), (.mv (.t 41)), none⟩])
(.seq
(.seq
(.rg [⟨(some 42), (.mv (.t 0)), none⟩, ⟨(some 43), (.len 34 (.t 42)), none⟩, ⟨(some 44), (.mv (.c (.int .i64 0))), none⟩])
(.block 0
(.loop
(.seq
(.rg [⟨(some 45), (.bin .lss 3 (.t 44) (.t 43)), none⟩])
(.seq
(.cond (.t 45)
.skip
(.exit 0))
(.seq
(.block 1
(.seq
(.rg [⟨(some 46), (.mv (.t 44)), none⟩, ⟨(some 47), (.iaddr 34 (.t 42) (.t 44)), none⟩, ⟨(some 48), (.load 60 (.t 47)), none⟩, ⟨(some 7), (.alloc 3), none⟩, ⟨(some 8), (.alloc 60), none⟩, ⟨none, (.store 3 (.t 7) (.t 46)), none⟩, ⟨none, (.store 60 (.t 8) (.t 48)), none⟩])
(.seq
(.seq
(.rg [⟨(some 49), (.faddr 60 (.t 8) 0), none⟩, ⟨(some 50), (.load 3 (.t 49)), none⟩, ⟨(some 51), (.bin .neq 3 (.t 50) (.c (.int .i64 11))), none⟩])
(.cond (.t 51)
(.exit 1)
.skip))
(.seq
(.rg [⟨(some 52), (.mv (.t 6)), none⟩, ⟨(some 53), (.load 3 (.t 7)), none⟩, ⟨(some 54), (.iaddr 119 (.t 52) (.t 53)), none⟩, ⟨(some 55), (.load 122 (.t 54)), none⟩, ⟨(some 56), (.build 122 []), none⟩, ⟨(some 57), (.bin .neq 122 (.t 55) (.t 56)), none⟩, ⟨(some 58), (.mv (.t 57)), none⟩, ⟨(some 59), (.mv (.t 4)), (some (58, false))⟩, ⟨(some 60), (.load 3 (.t 7)), (some (58, false))⟩, ⟨(some 61), (.slice 94 (.t 59) none (some (.t 60)) none), (some (58, false))⟩, ⟨(some 62), (.mkfn 93 [] [(.t 7)]), (some (58, false))⟩, ⟨(some 63), (.call (.c (.fn 92 [] [])) [(.t 61), (.t 62)]), (some (58, false))⟩, ⟨(some 64), (.pick (.t 58) (.c (.bool true)) (.t 63)), none⟩])
(.cond (.t 64)
(.seq
(.rg [⟨(some 2), (.mv (.c (.bool false))), none⟩])
.ret)
.skip)))))
(.rg [⟨(some 65), (.bin .add 3 (.t 44) (.c (.int .i64 1))), none⟩, ⟨(some 44), (.mv (.t 65)), none⟩])))))))
(.seq
(.rg [⟨(some 2), (.mv (.c (.bool true))), none⟩])
.ret)))))))))
theorem ok63 : FnOk Try.prog 63 c63 66 1 [(.tmp 2)] := .of Try.func63 (by kernel_rfl) (by kernel_rfl) (by kernel_rfl) (by kernel_rfl) (by kernel_rfl) (by decide) (by kernel_rfl)
def c64 : SC :=
(.seq
(.rg [⟨(some 2), (.mv (.c (.bool false))), none⟩])
(.seq
(.rg [⟨(some 3), (.mv (.t 0)), none⟩, ⟨(some 4), (.len 34 (.t 3)), none⟩, ⟨(some 5), (.bin .eql 3 (.t 4) (.c (.int .i64 0))), none⟩, ⟨(some 6), (.mv (.t 5)), none⟩, ⟨(some 7), (.mv (.t 0)), (some (6, false))⟩, ⟨(some 8), (.call (.c (.fn 63 [] [])) [(.t 7)]), (some (6, false))⟩, ⟨(some 9), (.pick (.t 6) (.c (.bool true)) (.t 8)), none⟩, ⟨(some 2), (.mv (.t 9)), none⟩])
.ret))
theorem ok64 : FnOk Try.prog 64 c64 10 1 [(.tmp 2)] := .of Try.func64 (by kernel_rfl) (by kernel_rfl) (by kernel_rfl) (by kernel_rfl) (by kernel_rfl) (by decide) (by kernel_rfl)
def c65 : SC :=
(.seq
(.rg [⟨(some 2), (.mv (.c (.bool false))), none⟩])
(.seq
(.rg [⟨(some 3), (.mv (.t 0)), none⟩, ⟨(some 4), (.call (.c (.fn 78 [] [])) [(.t 3), (.c (.fn 94 [] []))]), none⟩, ⟨(some 2), (.mv (.t 4)), none⟩])
.ret))
theorem ok65 : FnOk Try.prog 65 c65 5 1 [(.tmp 2)] := .of Try.func65 (by kernel_rfl) (by kernel_rfl) (by kernel_rfl) (by kernel_rfl) (by kernel_rfl) (by decide) (by kernel_rfl)
def c66 : SC :=
(.seq
(.rg [⟨(some 2), (.mv (.c (.int .i64 0))), none⟩])
(.seq
(.rg [⟨(some 6), (.mv (.t 0)), none⟩, ⟨(some 7), (.call (.c (.fn 53 [] [])) [(.t 6)]), none⟩, ⟨(some 5), (.mv (.t 7)), none⟩, ⟨(some 8), (.ext (.t 5) 0), none⟩, ⟨(some 9), (.ext (.t 5) 1), none⟩, ⟨(some 3), (.alloc 75), none⟩, ⟨none, (.store 75 (.t 3) (.t 8)), none⟩, ⟨(some 4), (.mv (.t 9)), none⟩])
(.seq
(.rg [⟨(some 10), (.faddr 75 (.t 3) 0), none⟩, ⟨(some 11), (.load 2 (.t 10)), none⟩, ⟨(some 2), (.mv (.t 11)), none⟩])
.ret)))
theorem ok66 : FnOk Try.prog 66 c66 12 1 [(.tmp 2)] := .of Try.func66 (by kernel_rfl) (by kernel_rfl) (by kernel_rfl) (by kernel_rfl) (by kernel_rfl) (by decide) (by kernel_rfl)
def c77 : SC :=
(.seq
(.rg [⟨(some 2), (.box 36 (.t 0)), none⟩, ⟨(some 3), (.mv (.c (.bool false))), none⟩])
(.seq
(.rg [⟨(some 4), (.faddr 36 (.t 2) 3), none⟩, ⟨(some 5), (.load 34 (.t 4)), none⟩, ⟨(some 6), (.faddr 36 (.t 2) 4), none⟩, ⟨(some 7), (.load 34 (.t 6)), none⟩, ⟨(some 8), (.bsl 127 2 [(0, (.t 5)), (1, (.t 7))]), none⟩, ⟨(some 9), (.call (.c (.fn 79 [] [])) [(.t 8)]), none⟩, ⟨(some 10), (.mkfn 80 [] [(.t 1)]), none⟩, ⟨(some 11), (.call (.c (.fn 78 [] [])) [(.t 9), (.t 10)]), none⟩, ⟨(some 3), (.mv (.t 11)), none⟩])
.ret))
theorem ok77 : FnOk Try.prog 77 c77 12 2 [(.tmp 3)] := .of Try.func77 (by kernel_rfl) (by kernel_rfl) (by kernel_rfl) (by kernel_rfl) (by kernel_rfl) (by decide) (by kernel_rfl)
def c78 : SC :=
(.seq
(.rg [⟨(some 4), (.mv (.c (.bool false))), none⟩])
(.seq
(.rg [⟨(some 5), (.mv (.t 0)), none⟩, ⟨(some 6), (.mv (.t 1)), none⟩, ⟨(some 7), (.call (.c (.fn 88 [] [])) [(.t 5), (.t 6)]), none⟩, ⟨(some 8), (.bin .geq 3 (.t 7) (.c (.int .i64 0))), none⟩, ⟨(some 4), (.mv (.t 8)), none⟩])
.ret))
theorem ok78 : FnOk Try.prog 78 c78 9 2 [(.tmp 4)] := .of Try.func78 (by kernel_rfl) (by kernel_rfl) (by kernel_rfl) (by kernel_rfl) (by kernel_rfl) (by decide) (by kernel_rfl)
def c79 : SC :=
(.seq
(.rg [⟨(some 2), (.mv (.c .nilsl)), none⟩])
(.seq
(.rg [⟨(some 3), (.mv (.c (.int .i64 0))), none⟩])
(.seq
(.seq
(.rg [⟨(some 9), (.mv (.t 0)), none⟩, ⟨(some 10), (.len 127 (.t 9)), none⟩, ⟨(some 11), (.mv (.c (.int .i64 0))), none⟩])
(.block 0
(.loop
(.seq
(.rg [⟨(some 12), (.bin .lss 3 (.t 11) (.t 10)), none⟩])
(.seq
(.cond (.t 12)
.skip
(.exit 0))
(.seq
(.block 1
(.seq
(.rg [⟨(some 13), (.iaddr 127 (.t 9) (.t 11)), none⟩, ⟨(some 14), (.load 34 (.t 13)), none⟩, ⟨(some 5), (.mv (.t 14)), none⟩])
(.seq
(.rg [⟨(some 15), (.mv (.t 3)), none⟩, ⟨(some 16), (.mv (.t 5)), none⟩, ⟨(some 17), (.len 34 (.t 16)), none⟩, ⟨(some 18), (.bin .add 3 (.t 15) (.t 17)), none⟩, ⟨(some 3), (.mv (.t 18)), none⟩])
(.seq
(.rg [⟨(some 19), (.mv (.t 3)), none⟩, ⟨(some 20), (.bin .lss 3 (.t 19) (.c (.int .i64 0))), none⟩])
(.cond (.t 20)
(.rg [⟨(some 21), .bad, none⟩, ⟨none, .bad, none⟩])
.skip)))))
(.rg [⟨(some 22), (.bin .add 3 (.t 11) (.c (.int .i64 1))), none⟩, ⟨(some 11), (.mv (.t 22)), none⟩])))))))
(.seq
(.rg [⟨(some 23), (.mv (.t 3)), none⟩, ⟨(some 24), (.call (.c (.fn 97 [] [])) [(.c .nilsl), (.t 23)]), none⟩, ⟨(some 6), (.mv (.t 24)), none⟩])
(.seq
(.seq
(.rg [⟨(some 25), (.mv (.t 0)), none⟩, ⟨(some 26), (.len 127 (.t 25)), none⟩, ⟨(some 27), (.mv (.c (.int .i64 0))), none⟩])
(.block 2
(.loop
(.seq
(.rg [⟨(some 28), (.bin .lss 3 (.t 27) (.t 26)), none⟩])
(.seq
(.cond (.t 28)
.skip
(.exit 2))
(.seq
(.block 3
(.seq
(.rg [⟨(some 29), (.iaddr 127 (.t 25) (.t 27)), none⟩, ⟨(some 30), (.load 34 (.t 29)), none⟩, ⟨(some 8), (.mv (.t 30)), none⟩])
(.rg [⟨(some 31), (.mv (.t 6)), none⟩, ⟨(some 32), (.mv (.t 8)), none⟩, ⟨(some 33), (.app 34 34 (.t 31) (.t 32)), none⟩, ⟨(some 6), (.mv (.t 33)), none⟩])))
(.rg [⟨(some 34), (.bin .add 3 (.t 27) (.c (.int .i64 1))), none⟩, ⟨(some 27), (.mv (.t 34)), none⟩])))))))
(.seq
(.rg [⟨(some 35), (.mv (.t 6)), none⟩, ⟨(some 2), (.mv (.t 35)), none⟩])
.ret))))))
theorem ok79 : FnOk Try.prog 79 c79 36 1 [(.tmp 2)] := .of Try.func79 (by kernel_rfl) (by kernel_rfl) (by kernel_rfl) (by kernel_rfl) (by kernel_rfl) (by decide) (by kernel_rfl)
def c80 : SC :=
(.seq
(.rg [⟨(some 2), (.box 60 (.t 0)), none⟩, ⟨(some 3), (.mv (.c (.bool false))), none⟩])
(.seq
(.rg [⟨(some 4), (.faddr 60 (.t 2) 0), none⟩, ⟨(some 5), (.load 3 (.t 4)), none⟩, ⟨(some 6), (.bin .eql 3 (.t 5) (.c (.int .i64 9))), none⟩, ⟨(some 7), (.mv (.t 6)), none⟩, ⟨(some 8), (.faddr 60 (.t 2) 1), (some (7, true))⟩, ⟨(some 9), (.load 3 (.t 8)), (some (7, true))⟩, ⟨(some 10), (.load 3 (.t 1)), (some (7, true))⟩, ⟨(some 11), (.bin .eql 3 (.t 9) (.t 10)), (some (7, true))⟩, ⟨(some 12), (.pick (.t 7) (.t 11) (.c (.bool false))), none⟩, ⟨(some 3), (.mv (.t 12)), none⟩])
.ret))
theorem ok80 : FnOk Try.prog 80 c80 13 2 [(.tmp 3)] := .of Try.func80 (by kernel_rfl) (by kernel_rfl) (by kernel_rfl) (by kernel_rfl) (by kernel_rfl) (by decide) (by kernel_rfl)
def c81 : SC :=
(.seq
(.rg [⟨(some 1), (.box 60 (.t 0)), none⟩, ⟨(some 2), (.mv (.c (.bool false))), none⟩])
(.seq
(.rg [⟨(some 4), (.build 130 [(0, (.c (.int .i64 8)))]), none⟩, ⟨(some 3), (.alloc 130), none⟩, ⟨none, (.store 130 (.t 3) (.t 4)), none⟩])
(.seq
(.seq
(.rg [⟨(some 5), (.faddr 60 (.t 1) 0), none⟩, ⟨(some 6), (.load 3 (.t 5)), none⟩])
(.block 0
(.seq
(.seq
(.rg [⟨(some 8), (.bin .eql 3 (.t 6) (.c (.int .i64 0))), none⟩, ⟨(some 7), (.mv (.t 8)), none⟩])
(.cond (.t 7)
.skip
(.rg [⟨(some 9), (.bin .eql 3 (.t 6) (.c (.int .i64 11))), none⟩, ⟨(some 7), (.mv (.t 9)), none⟩])))
(.cond (.t 7)
(.seq
(.rg [⟨(some 10), (.faddr 60 (.t 1) 1), none⟩, ⟨(some 11), (.load 3 (.t 10)), none⟩, ⟨(some 12), (.bin .eql 3 (.t 11) (.c (.int .i64 0))), none⟩, ⟨(some 13), (.mv (.t 12)), none⟩, ⟨(some 14), (.faddr 60 (.t 1) 2), (some (13, true))⟩, ⟨(some 15), (.load 3 (.t 14)), (some (13, true))⟩, ⟨(some 16), (.bin .eql 3 (.t 15) (.c (.int .i64 0))), (some (13, true))⟩, ⟨(some 17), (.pick (.t 13) (.t 16) (.c (.bool false))), none⟩, ⟨(some 18), (.mv (.t 17)), none⟩, ⟨(some 19), (.faddr 60 (.t 1) 3), (some (18, true))⟩, ⟨(some 20), (.load 3 (.t 19)), (some (18, true))⟩, ⟨(some 21), (.bin .eql 3 (.t 20) (.c (.int .i64 0))), (some (18, true))⟩, ⟨(some 22), (.pick (.t 18) (.t 21) (.c (.bool false))), none⟩, ⟨(some 2), (.mv (.t 22)), none⟩])
.ret)
(.seq
(.rg [⟨(some 24), (.bin .eql 3 (.t 6) (.c (.int .i64 1))), none⟩, ⟨(some 23), (.mv (.t 24)), none⟩])
(.cond (.t 23)
(.seq
(.rg [⟨(some 25), (.load 130 (.t 3)), none⟩, ⟨(some 26), (.faddr 60 (.t 1) 1), none⟩, ⟨(some 27), (.load 3 (.t 26)), none⟩, ⟨(some 28), (.call (.c (.fn 98 [] [])) [(.t 25), (.t 27)]), none⟩, ⟨(some 29), (.mv (.t 28)), none⟩, ⟨(some 30), (.faddr 60 (.t 1) 2), (some (29, true))⟩, ⟨(some 31), (.load 3 (.t 30)), (some (29, true))⟩, ⟨(some 32), (.bin .eql 3 (.t 31) (.c (.int .i64 0))), (some (29, true))⟩, ⟨(some 33), (.pick (.t 29) (.t 32) (.c (.bool false))), none⟩, ⟨(some 34), (.mv (.t 33)), none⟩, ⟨(some 35), (.faddr 60 (.t 1) 3), (some (34, true))⟩, ⟨(some 36), (.load 3 (.t 35)), (some (34, true))⟩, ⟨(some 37), (.bin .geq 3 (.t 36) (.c (.int .i64 (-2147483648)))), (some (34, true))⟩, ⟨(some 38), (.pick (.t 34) (.t 37) (.c (.bool false))), none⟩, ⟨(some 39), (.mv (.t 38)), none⟩, ⟨(some 40), (.faddr 60 (.t 1) 3), (some (39, true))⟩, ⟨(some 41), (.load 3 (.t 40)), (some (39, true))⟩, ⟨(some 42), (.bin .lss 3 (.t 41) (.c (.int .i64 2147483648))), (some (39, true))⟩, ⟨(some 43), (.pick (.t 39) (.t 42) (.c (.bool false))), none⟩, ⟨(some 2), (.mv (.t 43)), none⟩])
.ret)
(.seq
(.seq
(.rg [⟨(some 45), (.bin .eql 3 (.t 6) (.c (.int .i64 2))), none⟩, ⟨(some 44), (.mv (.t 45)), none⟩])
(.cond (.t 44)
.skip
(.seq
(.rg [⟨(some 46), (.bin .eql 3 (.t 6) (.c (.int .i64 3))), none⟩, ⟨(some 44), (.mv (.t 46)), none⟩])
(.cond (.t 44)
.skip
(.rg [⟨(some 47), (.bin .eql 3 (.t 6) (.c (.int .i64 4))), none⟩, ⟨(some 44), (.mv (.t 47)), none⟩])))))
(.cond (.t 44)
(.seq
(.rg [⟨(some 48), (.load 130 (.t 3)), none⟩, ⟨(some 49), (.faddr 60 (.t 1) 1), none⟩, ⟨(some 50), (.load 3 (.t 49)), none⟩, ⟨(some 51), (.call (.c (.fn 98 [] [])) [(.t 48), (.t 50)]), none⟩, ⟨(some 52), (.mv (.t 51)), none⟩, ⟨(some 53), (.load 130 (.t 3)), (some (52, true))⟩, ⟨(some 54), (.faddr 60 (.t 1) 2), (some (52, true))⟩, ⟨(some 55), (.load 3 (.t 54)), (some (52, true))⟩, ⟨(some 56), (.call (.c (.fn 98 [] [])) [(.t 53), (.t 55)]), (some (52, true))⟩, ⟨(some 57), (.pick (.t 52) (.t 56) (.c (.bool false))), none⟩, ⟨(some 58), (.mv (.t 57)), none⟩, ⟨(some 59), (.faddr 60 (.t 1) 3), (some (58, true))⟩, ⟨(some 60), (.load 3 (.t 59)), (some (58, true))⟩, ⟨(some 61), (.bin .eql 3 (.t 60) (.c (.int .i64 0))), (some (58, true))⟩, ⟨(some 62), (.pick (.t 58) (.t 61) (.c (.bool false))), none⟩, ⟨(some 2), (.mv (.t 62)), none⟩])
.ret)
(.seq
(.rg [⟨(some 64), (.bin .eql 3 (.t 6) (.c (.int .i64 5))), none⟩, ⟨(some 63), (.mv (.t 64)), none⟩])
(.cond (.t 63)
(.seq
(.rg [⟨(some 65), (.load 130 (.t 3)), none⟩, ⟨(some 66), (.faddr 60 (.t 1) 1), none⟩, ⟨(some 67), (.load 3 (.t 66)), none⟩, ⟨(some 68), (.call (.c (.fn 98 [] [])) [(.t 65), (.t 67)]), none⟩, ⟨(some 69), (.mv (.t 68)), none⟩, ⟨(some 70), (.faddr 60 (.t 1) 2), (some (69, true))⟩, ⟨(some 71), (.load 3 (.t 70)), (some (69, true))⟩, ⟨(some 72), (.bin .eql 3 (.t 71) (.c (.int .i64 0))), (some (69, true))⟩, ⟨(some 73), (.pick (.t 69) (.t 72) (.c (.bool false))), none⟩, ⟨(some 74), (.mv (.t 73)), none⟩, ⟨(some 75), (.faddr 60 (.t 1) 3), (some (74, true))⟩, ⟨(some 76), (.load 3 (.t 75)), (some (74, true))⟩, ⟨(some 77), (.bin .geq 3 (.t 76) (.c (.int .i64 (-63)))), (some (74, true))⟩, ⟨(some 78), (.pick (.t 74) (.t 77) (.c (.bool false))), none⟩, ⟨(some 79), (.mv (.t 78)), none⟩, ⟨(some 80), (.faddr 60 (.t 1) 3), (some (79, true))⟩, ⟨(some 81), (.load 3 (.t 80)), (some (79, true))⟩, ⟨(some 82), (.bin .leq 3 (.t 81) (.c (.int .i64 63))), (some (79, true))⟩, ⟨(some 83), (.pick (.t 79) (.t 82) (.c (.bool false))), none⟩, ⟨(some 2), (.mv (.t 83)), none⟩])
.ret)
(.seq
(.rg [⟨(some 85), (.bin .eql 3 (.t 6) (.c (.int .i64 6))), none⟩, ⟨(some 84), (.mv (.t 85)), none⟩])
(.cond (.t 84)
(.seq
(.rg [⟨(some 86), (.load 130 (.t 3)), none⟩, ⟨(some 87), (.faddr 60 (.t 1) 1), none⟩, ⟨(some 88), (.load 3 (.t 87)), none⟩, ⟨(some 89), (.call (.c (.fn 98 [] [])) [(.t 86), (.t 88)]), none⟩, ⟨(some 90), (.mv (.t 89)), none⟩, ⟨(some 91), (.faddr 60 (.t 1) 2), (some (90, true))⟩, ⟨(some 92), (.load 3 (.t 91)), (some (90, true))⟩, ⟨(some 93), (.bin .eql 3 (.t 92) (.c (.int .i64 0))), (some (90, true))⟩, ⟨(some 94), (.pick (.t 90) (.t 93) (.c (.bool false))), none⟩, ⟨(some 95), (.mv (.t 94)), none⟩, ⟨(some 96), (.faddr 60 (.t 1) 3), (some (95, true))⟩, ⟨(some 97), (.load 3 (.t 96)), (some (95, true))⟩, ⟨(some 98), (.bin .geq 3 (.t 97) (.c (.int .i64 1))), (some (95, true))⟩, ⟨(some 99), (.pick (.t 95) (.t 98) (.c (.bool false))), none⟩, ⟨(some 100), (.mv (.t 99)), none⟩, ⟨(some 101), (.faddr 60 (.t 1) 3), (some (100, true))⟩, ⟨(some 102), (.load 3 (.t 101)), (some (100, true))⟩, ⟨(some 103), (.bin .leq 3 (.t 102) (.c (.int .i64 64))), (some (100, true))⟩, ⟨(some 104), (.pick (.t 100) (.t 103) (.c (.bool false))), none⟩, ⟨(some 2), (.mv (.t 104)), none⟩])
.ret)
(.seq
(.rg [⟨(some 106), (.bin .eql 3 (.t 6) (.c (.int .i64 7))), none⟩, ⟨(some 105), (.mv (.t 106)), none⟩])
(.cond (.t 105)
(.seq
(.rg [⟨(some 107), (.load 130 (.t 3)), none⟩, ⟨(some 108), (.faddr 60 (.t 1) 1), none⟩, ⟨(some 109), (.load 3 (.t 108)), none⟩, ⟨(some 110), (.call (.c (.fn 98 [] [])) [(.t 107), (.t 109)]), none⟩, ⟨(some 111), (.mv (.t 110)), none⟩, ⟨(some 112), (.faddr 60 (.t 1) 2), (some (111, true))⟩, ⟨(some 113), (.load 3 (.t 112)), (some (111, true))⟩, ⟨(some 114), (.bin .eql 3 (.t 113) (.c (.int .i64 0))), (some (111, true))⟩, ⟨(some 115), (.pick (.t 111) (.t 114) (.c (.bool false))), none⟩, ⟨(some 116), (.mv (.t 115)), none⟩, ⟨(some 117), (.faddr 60 (.t 1) 3), (some (116, true))⟩, ⟨(some 118), (.load 3 (.t 117)), (some (116, true))⟩, ⟨(some 119), (.bin .geq 3 (.t 118) (.c (.int .i64 1))), (some (116, true))⟩, ⟨(some 120), (.pick (.t 116) (.t 119) (.c (.bool false))), none⟩, ⟨(some 121), (.mv (.t 120)), none⟩, ⟨(some 122), (.faddr 60 (.t 1) 3), (some (121, true))⟩, ⟨(some 123), (.load 3 (.t 122)), (some (121, true))⟩, ⟨(some 124), (.bin .leq 3 (.t 123) (.c (.int .i64 24))), (some (121, true))⟩, ⟨(some 125), (.pick (.t 121) (.t 124) (.c (.bool false))), none⟩, ⟨(some 2), (.mv (.t 125)), none⟩])
.ret)
(.seq
(.rg [⟨(some 127), (.bin .eql 3 (.t 6) (.c (.int .i64 8))), none⟩, ⟨(some 126), (.mv (.t 127)), none⟩])
(.cond (.t 126)
(.seq
(.rg [⟨(some 128), (.faddr 60 (.t 1) 1), none⟩, ⟨(some 129), (.load 3 (.t 128)), none⟩, ⟨(some 130), (.bin .eql 3 (.t 129) (.c (.int .i64 0))), none⟩, ⟨(some 131), (.mv (.t 130)), none⟩, ⟨(some 132), (.faddr 60 (.t 1) 2), (some (131, true))⟩, ⟨(some 133), (.load 3 (.t 132)), (some (131, true))⟩, ⟨(some 134), (.bin .geq 3 (.t 133) (.c (.int .i64 1))), (some (131, true))⟩, ⟨(some 135), (.pick (.t 131) (.t 134) (.c (.bool false))), none⟩, ⟨(some 136), (.mv (.t 135)), none⟩, ⟨(some 137), (.faddr 60 (.t 1) 2), (some (136, true))⟩, ⟨(some 138), (.load 3 (.t 137)), (some (136, true))⟩, ⟨(some 139), (.bin .leq 3 (.t 138) (.c (.int .i64 24))), (some (136, true))⟩, ⟨(some 140), (.pick (.t 136) (.t 139) (.c (.bool false))), none⟩, ⟨(some 141), (.mv (.t 140)), none⟩, ⟨(some 142), (.faddr 60 (.t 1) 3), (some (141, true))⟩, ⟨(some 143), (.load 3 (.t 142)), (some (141, true))⟩, ⟨(some 144), (.bin .geq 3 (.t 143) (.c (.int .i64 1))), (some (141, true))⟩, ⟨(some 145), (.pick (.t 141) (.t 144) (.c (.bool false))), none⟩, ⟨(some 146), (.mv (.t 145)), none⟩, ⟨(some 147), (.faddr 60 (.t 1) 3), (some (146, true))⟩, ⟨(some 148), (.load 3 (.t 147)), (some (146, true))⟩, ⟨(some 149), (.bin .leq 3 (.t 148) (.c (.int .i64 20))), (some (146, true))⟩, ⟨(some 150), (.pick (.t 146) (.t 149) (.c (.bool false))), none⟩, ⟨(some 2), (.mv (.t 150)), none⟩])
.ret)
(.seq
(.seq
(.rg [⟨(some 152), (.bin .eql 3 (.t 6) (.c (.int .i64 9))), none⟩, ⟨(some 151), (.mv (.t 152)), none⟩])
(.cond (.t 151)
.skip
(.rg [⟨(some 153), (.bin .eql 3 (.t 6) (.c (.int .i64 10))), none⟩, ⟨(some 151), (.mv (.t 153)), none⟩])))
(.cond (.t 151)
(.seq
(.rg [⟨(some 154), (.faddr 60 (.t 1) 1), none⟩, ⟨(some 155), (.load 3 (.t 154)), none⟩, ⟨(some 156), (.bin .geq 3 (.t 155) (.c (.int .i64 0))), none⟩, ⟨(some 157), (.mv (.t 156)), none⟩, ⟨(some 158), (.faddr 60 (.t 1) 1), (some (157, true))⟩, ⟨(some 159), (.load 3 (.t 158)), (some (157, true))⟩, ⟨(some 160), (.bin .lss 3 (.t 159) (.c (.int .i64 4))), (some (157, true))⟩, ⟨(some 161), (.pick (.t 157) (.t 160) (.c (.bool false))), none⟩, ⟨(some 162), (.mv (.t 161)), none⟩, ⟨(some 163), (.faddr 60 (.t 1) 2), (some (162, true))⟩, ⟨(some 164), (.load 3 (.t 163)), (some (162, true))⟩, ⟨(some 165), (.bin .eql 3 (.t 164) (.c (.int .i64 0))), (some (162, true))⟩, ⟨(some 166), (.pick (.t 162) (.t 165) (.c (.bool false))), none⟩, ⟨(some 167), (.mv (.t 166)), none⟩, ⟨(some 168), (.faddr 60 (.t 1) 3), (some (167, true))⟩, ⟨(some 169), (.load 3 (.t 168)), (some (167, true))⟩, ⟨(some 170), (.bin .eql 3 (.t 169) (.c (.int .i64 0))), (some (167, true))⟩, ⟨(some 171), (.pick (.t 167) (.t 170) (.c (.bool false))), none⟩, ⟨(some 2), (.mv (.t 171)), none⟩])
.ret)
.skip))))))))))))))))))
(.seq
(.rg [⟨(some 2), (.mv (.c (.bool false))), none⟩])
.ret))))
theorem ok81 : FnOk Try.prog 81 c81 172 1 [(.tmp 2)] := .of Try.func81 (by kernel_rfl) (by kernel_rfl) (by kernel_rfl) (by kernel_rfl) (by kernel_rfl) (by decide) (by kernel_rfl)
def c82 : SC :=
(.seq
(.rg [⟨(some 2), (.mv (.c .nilsl)), none⟩])
(.seq
(.rg [⟨(some 3), (.mv (.c .nilsl)), none⟩])
(.seq
(.seq
(.rg [⟨(some 4), (.mv (.c (.int .i64 0))), none⟩])
(.block 0
(.loop
(.seq
(.seq
(.rg [⟨(some 5), (.mv (.t 4)), none⟩, ⟨(some 6), (.mv (.t 0)), none⟩, ⟨(some 7), (.len 34 (.t 6)), none⟩, ⟨(some 8), (.bin .lss 3 (.t 5) (.t 7)), none⟩])
(.cond (.t 8)
.skip
(.exit 0)))
(.seq
(.block 1
(.seq
(.rg [⟨(some 11), (.mv (.t 0)), none⟩, ⟨(some 12), (.mv (.t 4)), none⟩, ⟨(some 13), (.iaddr 34 (.t 11) (.t 12)), none⟩, ⟨(some 14), (.faddr 60 (.t 13) 0), none⟩, ⟨(some 15), (.load 3 (.t 14)), none⟩])
(.block 2
(.seq
(.rg [⟨(some 17), (.bin .eql 3 (.t 15) (.c (.int .i64 7))), none⟩, ⟨(some 16), (.mv (.t 17)), none⟩])
(.cond (.t 16)
(.rg [⟨(some 18), (.mv (.t 3)), none⟩, ⟨(some 19), (.mv (.t 4)), none⟩, ⟨(some 20), (.bin .add 3 (.t 19) (.c (.int .i64 1))), none⟩, ⟨(some 21), (.mv (.t 4)), none⟩, ⟨(some 22), (.mv (.t 0)), none⟩, ⟨(some 23), (.mv (.t 4)), none⟩, ⟨(some 24), (.iaddr 34 (.t 22) (.t 23)), none⟩, ⟨(some 25), (.faddr 60 (.t 24) 3), none⟩, ⟨(some 26), (.load 3 (.t 25)), none⟩, ⟨(some 27), (.bin .add 3 (.t 21) (.t 26)), none⟩, ⟨(some 28), (.mv (.t 4)), none⟩, ⟨(some 29), (.build 114 [(0, (.t 20)), (1, (.t 27)), (2, (.t 28)), (3, (.c (.bool false)))]), none⟩, ⟨(some 30), (.bsl 111 1 [(0, (.t 29))]), none⟩, ⟨(some 31), (.app 111 111 (.t 18) (.t 30)), none⟩, ⟨(some 3), (.mv (.t 31)), none⟩])
(.seq
(.rg [⟨(some 33), (.bin .eql 3 (.t 15) (.c (.int .i64 8))), none⟩, ⟨(some 32), (.mv (.t 33)), none⟩])
(.cond (.t 32)
(.rg [⟨(some 34), (.mv (.t 3)), none⟩, ⟨(some 35), (.mv (.t 4)), none⟩, ⟨(some 36), (.bin .add 3 (.t 35) (.c (.int .i64 1))), none⟩, ⟨(some 37), (.mv (.t 4)), none⟩, ⟨(some 38), (.mv (.t 0)), none⟩, ⟨(some 39), (.mv (.t 4)), none⟩, ⟨(some 40), (.iaddr 34 (.t 38) (.t 39)), none⟩, ⟨(some 41), (.faddr 60 (.t 40) 2), none⟩, ⟨(some 42), (.load 3 (.t 41)), none⟩, ⟨(some 43), (.bin .add 3 (.t 37) (.t 42)), none⟩, ⟨(some 44), (.mv (.t 4)), none⟩, ⟨(some 45), (.build 114 [(0, (.t 36)), (1, (.t 43)), (2, (.t 44)), (3, (.c (.bool true)))]), none⟩, ⟨(some 46), (.bsl 111 1 [(0, (.t 45))]), none⟩, ⟨(some 47), (.app 111 111 (.t 34) (.t 46)), none⟩, ⟨(some 3), (.mv (.t 47)), none⟩])
.skip)))))))
(.rg [⟨(some 9), (.mv (.t 4)), none⟩, ⟨(some 10), (.bin .add 3 (.t 9) (.c (.int .i64 1))), none⟩, ⟨(some 4), (.mv (.t 10)), none⟩]))))))
(.seq
(.rg [⟨(some 48), (.mv (.t 3)), none⟩, ⟨(some 2), (.mv (.t 48)), none⟩])
.ret))))
theorem ok82 : FnOk Try.prog 82 c82 49 1 [(.tmp 2)] := .of Try.func82 (by kernel_rfl) (by kernel_rfl) (by kernel_rfl) (by kernel_rfl) (by kernel_rfl) (by decide) (by kernel_rfl)
def c83 : SC :=
(.seq
(.rg [⟨(some 2), (.box 114 (.t 0)), none⟩, ⟨(some 4), (.mv (.c (.bool false))), none⟩])
(.seq
(.rg [⟨(some 5), (.faddr 114 (.t 2) 0), none⟩, ⟨(some 6), (.load 3 (.t 5)), none⟩, ⟨(some 7), (.mv (.t 1)), none⟩, ⟨(some 8), (.bin .leq 3 (.t 6) (.t 7)), none⟩, ⟨(some 9), (.mv (.t 8)), none⟩, ⟨(some 10), (.mv (.t 1)), (some (9, true))⟩, ⟨(some 11), (.faddr 114 (.t 2) 1), (some (9, true))⟩, ⟨(some 12), (.load 3 (.t 11)), (some (9, true))⟩, ⟨(some 13), (.bin .leq 3 (.t 10) (.t 12)), (some (9, true))⟩, ⟨(some 14), (.pick (.t 9) (.t 13) (.c (.bool false))), none⟩, ⟨(some 4), (.mv (.t 14)), none⟩])
.ret))
theorem ok83 : FnOk Try.prog 83 c83 15 2 [(.tmp 4)] := .of Try.func83 (by kernel_rfl) (by kernel_rfl) (by kernel_rfl) (by kernel_rfl) (by kernel_rfl) (by decide) (by kernel_rfl)
def c84 : SC :=
(.seq
(.rg [⟨(some 6), (.mv (.c (.int .i64 0))), none⟩])
(.seq
(.rg [⟨(some 7), (.mv (.c (.int .i64 0))), none⟩])
(.seq
(.seq
(.rg [⟨(some 8), (.mv (.c (.int .i64 0))), none⟩])
(.block 0
(.loop
(.seq
(.seq
(.rg [⟨(some 9), (.mv (.t 8)), none⟩, ⟨(some 10), (.mv (.t 0)), none⟩, ⟨(some 11), (.len 34 (.t 10)), none⟩, ⟨(some 12), (.bin .lss 3 (.t 9) (.t 11)), none⟩])
(.cond (.t 12)
.skip
(.exit 0)))
(.seq
(.block 1
(.seq
(.rg [⟨(some 15), (.mv (.t 0)), none⟩, ⟨(some 16), (.mv (.t 8)), none⟩, ⟨(some 17), (.iaddr 34 (.t 15) (.t 16)), none⟩, ⟨(some 18), (.faddr 60 (.t 17) 0), none⟩, ⟨(some 19), (.load 3 (.t 18)), none⟩, ⟨(some 20), (.bin .eql 3 (.t 19) (.c (.int .i64 9))), none⟩, ⟨(some 21), (.mv (.t 20)), none⟩, ⟨(some 22), (.mv (.t 8)), (some (21, true))⟩, ⟨(some 23), (.mv (.t 2)), (some (21, true))⟩, ⟨(some 24), (.bin .lss 3 (.t 22) (.t 23)), (some (21, true))⟩, ⟨(some 25), (.pick (.t 21) (.t 24) (.c (.bool false))), none⟩, ⟨(some 26), (.mv (.t 25)), none⟩, ⟨(some 27), (.mv (.t 2)), (some (26, true))⟩, ⟨(some 28), (.mv (.t 1)), (some (26, true))⟩, ⟨(some 29), (.mv (.t 8)), (some (26, true))⟩, ⟨(some 30), (.iaddr 94 (.t 28) (.t 29)), (some (26, true))⟩, ⟨(some 31), (.load 3 (.t 30)), (some (26, true))⟩, ⟨(some 32), (.bin .lss 3 (.t 27) (.t 31)), (some (26, true))⟩, ⟨(some 33), (.pick (.t 26) (.t 32) (.c (.bool false))), none⟩])
(.cond (.t 33)
(.rg [⟨(some 34), (.mv (.t 7)), none⟩, ⟨(some 35), (.bin .add 3 (.t 34) (.c (.int .i64 1))), none⟩, ⟨(some 7), (.mv (.t 35)), none⟩])
.skip)))
(.rg [⟨(some 13), (.mv (.t 8)), none⟩, ⟨(some 14), (.bin .add 3 (.t 13) (.c (.int .i64 1))), none⟩, ⟨(some 8), (.mv (.t 14)), none⟩]))))))
(.seq
(.rg [⟨(some 36), (.mv (.t 7)), none⟩, ⟨(some 6), (.mv (.t 36)), none⟩])
.ret))))
theorem ok84 : FnOk Try.prog 84 c84 37 3 [(.tmp 6)] := .of Try.func84 (by kernel_rfl) (by kernel_rfl) (by kernel_rfl) (by kernel_rfl) (by kernel_rfl) (by decide) (by kernel_rfl)
def c85 : SC :=
(.seq
(.rg [⟨(some 2), (.alloc 60), none⟩])
(.seq
(.rg [⟨(some 5), (.mv (.t 0)), none⟩, ⟨(some 6), (.call (.c (.fn 32 [] [])) [(.t 5), (.c (.int .i64 3))]), none⟩, ⟨(some 7), (.mv (.t 0)), none⟩, ⟨(some 8), (.call (.c (.fn 32 [] [])) [(.t 7), (.c (.int .i64 3))]), none⟩, ⟨(some 3), (.mv (.t 6)), none⟩, ⟨(some 4), (.mv (.t 8)), none⟩])
(.seq
(.seq
(.rg [⟨(some 9), (.mv (.t 0)), none⟩, ⟨(some 10), (.call (.c (.fn 32 [] [])) [(.t 9), (.c (.int .i64 6))]), none⟩])
(.block 0
(.seq
(.rg [⟨(some 12), (.bin .eql 3 (.t 10) (.c (.int .i64 0))), none⟩, ⟨(some 11), (.mv (.t 12)), none⟩])
(.cond (.t 11)
(.seq
(.rg [⟨(some 13), (.mv (.t 3)), none⟩, ⟨(some 14), (.mv (.t 0)), none⟩, ⟨(some 15), (.call (.c (.fn 32 [] [])) [(.t 14), (.c (.int .i64 9))]), none⟩, ⟨(some 16), (.bin .sub 3 (.t 15) (.c (.int .i64 4))), none⟩, ⟨(some 17), (.build 60 [(0, (.c (.int .i64 1))), (1, (.t 13)), (3, (.t 16))]), none⟩, ⟨none, (.store 60 (.t 2) (.t 17)), none⟩])
.ret)
(.seq
(.rg [⟨(some 19), (.bin .eql 3 (.t 10) (.c (.int .i64 1))), none⟩, ⟨(some 18), (.mv (.t 19)), none⟩])
(.cond (.t 18)
(.seq
(.rg [⟨(some 20), (.mv (.t 3)), none⟩, ⟨(some 21), (.mv (.t 4)), none⟩, ⟨(some 22), (.build 60 [(0, (.c (.int .i64 2))), (1, (.t 20)), (2, (.t 21))]), none⟩, ⟨none, (.store 60 (.t 2) (.t 22)), none⟩])
.ret)
(.seq
(.rg [⟨(some 24), (.bin .eql 3 (.t 10) (.c (.int .i64 2))), none⟩, ⟨(some 23), (.mv (.t 24)), none⟩])
(.cond (.t 23)
(.seq
(.rg [⟨(some 25), (.mv (.t 3)), none⟩, ⟨(some 26), (.mv (.t 4)), none⟩, ⟨(some 27), (.build 60 [(0, (.c (.int .i64 3))), (1, (.t 25)), (2, (.t 26))]), none⟩, ⟨none, (.store 60 (.t 2) (.t 27)), none⟩])
.ret)
(.seq
(.rg [⟨(some 29), (.bin .eql 3 (.t 10) (.c (.int .i64 3))), none⟩, ⟨(some 28), (.mv (.t 29)), none⟩])
(.cond (.t 28)
(.seq
(.rg [⟨(some 30), (.mv (.t 3)), none⟩, ⟨(some 31), (.mv (.t 4)), none⟩, ⟨(some 32), (.build 60 [(0, (.c (.int .i64 4))), (1, (.t 30)), (2, (.t 31))]), none⟩, ⟨none, (.store 60 (.t 2) (.t 32)), none⟩])
.ret)
(.seq
(.rg [⟨(some 34), (.bin .eql 3 (.t 10) (.c (.int .i64 4))), none⟩, ⟨(some 33), (.mv (.t 34)), none⟩])
(.cond (.t 33)
(.seq
(.rg [⟨(some 35), (.mv (.t 3)), none⟩, ⟨(some 36), (.mv (.t 0)), none⟩, ⟨(some 37), (.call (.c (.fn 32 [] [])) [(.t 36), (.c (.int .i64 7))]), none⟩, ⟨(some 38), (.bin .sub 3 (.t 37) (.c (.int .i64 3))), none⟩, ⟨(some 39), (.build 60 [(0, (.c (.int .i64 5))), (1, (.t 35)), (3, (.t 38))]), none⟩, ⟨none, (.store 60 (.t 2) (.t 39)), none⟩])
.ret)
.skip))))))))))))
(.seq
(.rg [⟨(some 40), (.mv (.t 3)), none⟩, ⟨(some 41), (.mv (.t 0)), none⟩, ⟨(some 42), (.call (.c (.fn 32 [] [])) [(.t 41), (.c (.int .i64 64))]), none⟩, ⟨(some 43), (.bin .add 3 (.c (.int .i64 1)) (.t 42)), none⟩, ⟨(some 44), (.build 60 [(0, (.c (.int .i64 6))), (1, (.t 40)), (3, (.t 43))]), none⟩, ⟨none, (.store 60 (.t 2) (.t 44)), none⟩])
.ret))))
theorem ok85 : FnOk Try.prog 85 c85 45 1 [(.cell 2 60)] := .of Try.func85 (by kernel_rfl) (by kernel_rfl) (by kernel_rfl) (by kernel_rfl) (by kernel_rfl) (by decide) (by kernel_rfl)
def c86 : SC :=
(.seq
(.rg [⟨(some 1), (.box 60 (.t 0)), none⟩, ⟨(some 2), (.mv (.c (.bool false))), none⟩])
(.seq
(.rg [⟨(some 3), (.load 60 (.t 1)), none⟩, ⟨(some 4), (.call (.c (.fn 87 [] [])) [(.t 3)]), none⟩, ⟨(some 5), (.un .not (.t 4)), none⟩, ⟨(some 2), (.mv (.t 5)), none⟩])
.ret))
theorem ok86 : FnOk Try.prog 86 c86 6 1 [(.tmp 2)] := .of Try.func86 (by kernel_rfl) (by kernel_rfl) (by kernel_rfl) (by kernel_rfl) (by kernel_rfl) (by decide) (by kernel_rfl)
def c87 : SC :=
(.seq
(.rg [⟨(some 1), (.box 60 (.t 0)), none⟩, ⟨(some 2), (.mv (.c (.bool false))), none⟩])
(.seq
(.seq
(.rg [⟨(some 3), (.faddr 60 (.t 1) 0), none⟩, ⟨(some 4), (.load 3 (.t 3)), none⟩])
(.block 0
(.seq
(.seq
(.rg [⟨(some 6), (.bin .eql 3 (.t 4) (.c (.int .i64 0))), none⟩, ⟨(some 5), (.mv (.t 6)), none⟩])
(.cond (.t 5)
.skip
(.rg [⟨(some 7), (.bin .eql 3 (.t 4) (.c (.int .i64 11))), none⟩, ⟨(some 5), (.mv (.t 7)), none⟩])))
(.cond (.t 5)
(.seq
(.rg [⟨(some 8), (.faddr 60 (.t 1) 1), none⟩, ⟨(some 9), (.load 3 (.t 8)), none⟩, ⟨(some 10), (.bin .eql 3 (.t 9) (.c (.int .i64 0))), none⟩, ⟨(some 11), (.mv (.t 10)), none⟩, ⟨(some 12), (.faddr 60 (.t 1) 2), (some (11, true))⟩, ⟨(some 13), (.load 3 (.t 12)), (some (11, true))⟩, ⟨(some 14), (.bin .eql 3 (.t 13) (.c (.int .i64 0))), (some (11, true))⟩, ⟨(some 15), (.pick (.t 11) (.t 14) (.c (.bool false))), none⟩, ⟨(some 16), (.mv (.t 15)), none⟩, ⟨(some 17), (.faddr 60 (.t 1) 3), (some (16, true))⟩, ⟨(some 18), (.load 3 (.t 17)), (some (16, true))⟩, ⟨(some 19), (.bin .eql 3 (.t 18) (.c (.int .i64 0))), (some (16, true))⟩, ⟨(some 20), (.pick (.t 16) (.t 19) (.c (.bool false))), none⟩, ⟨(some 2), (.mv (.t 20)), none⟩])
.ret)
(.seq
(.rg [⟨(some 22), (.bin .eql 3 (.t 4) (.c (.int .i64 1))), none⟩, ⟨(some 21), (.mv (.t 22)), none⟩])
(.cond (.t 21)
(.seq
(.rg [⟨(some 23), (.faddr 60 (.t 1) 1), none⟩, ⟨(some 24), (.load 3 (.t 23)), none⟩, ⟨(some 25), (.call (.c (.fn 99 [] [])) [(.t 24)]), none⟩, ⟨(some 26), (.mv (.t 25)), none⟩, ⟨(some 27), (.faddr 60 (.t 1) 2), (some (26, true))⟩, ⟨(some 28), (.load 3 (.t 27)), (some (26, true))⟩, ⟨(some 29), (.bin .eql 3 (.t 28) (.c (.int .i64 0))), (some (26, true))⟩, ⟨(some 30), (.pick (.t 26) (.t 29) (.c (.bool false))), none⟩, ⟨(some 31), (.mv (.t 30)), none⟩, ⟨(some 32), (.faddr 60 (.t 1) 3), (some (31, true))⟩, ⟨(some 33), (.load 3 (.t 32)), (some (31, true))⟩, ⟨(some 34), (.call (.c (.fn 100 [] [])) [(.t 33), (.c (.int .i64 (-2147483648))), (.c (.int .i64 2147483647))]), (some (31, true))⟩, ⟨(some 35), (.pick (.t 31) (.t 34) (.c (.bool false))), none⟩, ⟨(some 2), (.mv (.t 35)), none⟩])
.ret)
(.seq
(.seq
(.rg [⟨(some 37), (.bin .eql 3 (.t 4) (.c (.int .i64 2))), none⟩, ⟨(some 36), (.mv (.t 37)), none⟩])
(.cond (.t 36)
.skip
(.seq
(.rg [⟨(some 38), (.bin .eql 3 (.t 4) (.c (.int .i64 3))), none⟩, ⟨(some 36), (.mv (.t 38)), none⟩])
(.cond (.t 36)
.skip
(.rg [⟨(some 39), (.bin .eql 3 (.t 4) (.c (.int .i64 4))), none⟩, ⟨(some 36), (.mv (.t 39)), none⟩])))))
(.cond (.t 36)
(.seq
(.rg [⟨(some 40), (.faddr 60 (.t 1) 1), none⟩, ⟨(some 41), (.load 3 (.t 40)), none⟩, ⟨(some 42), (.call (.c (.fn 99 [] [])) [(.t 41)]), none⟩, ⟨(some 43), (.mv (.t 42)), none⟩, ⟨(some 44), (.faddr 60 (.t 1) 2), (some (43, true))⟩, ⟨(some 45), (.load 3 (.t 44)), (some (43, true))⟩, ⟨(some 46), (.call (.c (.fn 99 [] [])) [(.t 45)]), (some (43, true))⟩, ⟨(some 47), (.pick (.t 43) (.t 46) (.c (.bool false))), none⟩, ⟨(some 48), (.mv (.t 47)), none⟩, ⟨(some 49), (.faddr 60 (.t 1) 3), (some (48, true))⟩, ⟨(some 50), (.load 3 (.t 49)), (some (48, true))⟩, ⟨(some 51), (.bin .eql 3 (.t 50) (.c (.int .i64 0))), (some (48, true))⟩, ⟨(some 52), (.pick (.t 48) (.t 51) (.c (.bool false))), none⟩, ⟨(some 2), (.mv (.t 52)), none⟩])
.ret)
(.seq
(.rg [⟨(some 54), (.bin .eql 3 (.t 4) (.c (.int .i64 5))), none⟩, ⟨(some 53), (.mv (.t 54)), none⟩])
(.cond (.t 53)
(.seq
(.rg [⟨(some 55), (.faddr 60 (.t 1) 1), none⟩, ⟨(some 56), (.load 3 (.t 55)), none⟩, ⟨(some 57), (.call (.c (.fn 99 [] [])) [(.t 56)]), none⟩, ⟨(some 58), (.mv (.t 57)), none⟩, ⟨(some 59), (.faddr 60 (.t 1) 2), (some (58, true))⟩, ⟨(some 60), (.load 3 (.t 59)), (some (58, true))⟩, ⟨(some 61), (.bin .eql 3 (.t 60) (.c (.int .i64 0))), (some (58, true))⟩, ⟨(some 62), (.pick (.t 58) (.t 61) (.c (.bool false))), none⟩, ⟨(some 63), (.mv (.t 62)), none⟩, ⟨(some 64), (.faddr 60 (.t 1) 3), (some (63, true))⟩, ⟨(some 65), (.load 3 (.t 64)), (some (63, true))⟩, ⟨(some 66), (.call (.c (.fn 100 [] [])) [(.t 65), (.c (.int .i64 (-63))), (.c (.int .i64 63))]), (some (63, true))⟩, ⟨(some 67), (.pick (.t 63) (.t 66) (.c (.bool false))), none⟩, ⟨(some 2), (.mv (.t 67)), none⟩])
.ret)
(.seq
(.rg [⟨(some 69), (.bin .eql 3 (.t 4) (.c (.int .i64 6))), none⟩, ⟨(some 68), (.mv (.t 69)), none⟩])
(.cond (.t 68)
(.seq
(.rg [⟨(some 70), (.faddr 60 (.t 1) 1), none⟩, ⟨(some 71), (.load 3 (.t 70)), none⟩, ⟨(some 72), (.call (.c (.fn 99 [] [])) [(.t 71)]), none⟩, ⟨(some 73), (.mv (.t 72)), none⟩, ⟨(some 74), (.faddr 60 (.t 1) 2), (some (73, true))⟩, ⟨(some 75), (.load 3 (.t 74)), (some (73, true))⟩, ⟨(some 76), (.bin .eql 3 (.t 75) (.c (.int .i64 0))), (some (73, true))⟩, ⟨(some 77), (.pick (.t 73) (.t 76) (.c (.bool false))), none⟩, ⟨(some 78), (.mv (.t 77)), none⟩, ⟨(some 79), (.faddr 60 (.t 1) 3), (some (78, true))⟩, ⟨(some 80), (.load 3 (.t 79)), (some (78, true))⟩, ⟨(some 81), (.call (.c (.fn 100 [] [])) [(.t 80), (.c (.int .i64 1)), (.c (.int .i64 64))]), (some (78, true))⟩, ⟨(some 82), (.pick (.t 78) (.t 81) (.c (.bool false))), none⟩, ⟨(some 2), (.mv (.t 82)), none⟩])
.ret)
(.seq
(.rg [⟨(some 84), (.bin .eql 3 (.t 4) (.c (.int .i64 7))), none⟩, ⟨(some 83), (.mv (.t 84)), none⟩])
(.cond (.t 83)
(.seq
(.rg [⟨(some 85), (.faddr 60 (.t 1) 1), none⟩, ⟨(some 86), (.load 3 (.t 85)), none⟩, ⟨(some 87), (.call (.c (.fn 99 [] [])) [(.t 86)]), none⟩, ⟨(some 88), (.mv (.t 87)), none⟩, ⟨(some 89), (.faddr 60 (.t 1) 2), (some (88, true))⟩, ⟨(some 90), (.load 3 (.t 89)), (some (88, true))⟩, ⟨(some 91), (.bin .eql 3 (.t 90) (.c (.int .i64 0))), (some (88, true))⟩, ⟨(some 92), (.pick (.t 88) (.t 91) (.c (.bool false))), none⟩, ⟨(some 93), (.mv (.t 92)), none⟩, ⟨(some 94), (.faddr 60 (.t 1) 3), (some (93, true))⟩, ⟨(some 95), (.load 3 (.t 94)), (some (93, true))⟩, ⟨(some 96), (.call (.c (.fn 100 [] [])) [(.t 95), (.c (.int .i64 1)), (.c (.int .i64 24))]), (some (93, true))⟩, ⟨(some 97), (.pick (.t 93) (.t 96) (.c (.bool false))), none⟩, ⟨(some 2), (.mv (.t 97)), none⟩])
.ret)
(.seq
(.rg [⟨(some 99), (.bin .eql 3 (.t 4) (.c (.int .i64 8))), none⟩, ⟨(some 98), (.mv (.t 99)), none⟩])
(.cond (.t 98)
(.seq
(.rg [⟨(some 100), (.faddr 60 (.t 1) 1), none⟩, ⟨(some 101), (.load 3 (.t 100)), none⟩, ⟨(some 102), (.bin .eql 3 (.t 101) (.c (.int .i64 0))), none⟩, ⟨(some 103), (.mv (.t 102)), none⟩, ⟨(some 104), (.faddr 60 (.t 1) 2), (some (103, true))⟩, ⟨(some 105), (.load 3 (.t 104)), (some (103, true))⟩, ⟨(some 106), (.call (.c (.fn 100 [] [])) [(.t 105), (.c (.int .i64 1)), (.c (.int .i64 24))]), (some (103, true))⟩, ⟨(some 107), (.pick (.t 103) (.t 106) (.c (.bool false))), none⟩, ⟨(some 108), (.mv (.t 107)), none⟩, ⟨(some 109), (.faddr 60 (.t 1) 3), (some (108, true))⟩, ⟨(some 110), (.load 3 (.t 109)), (some (108, true))⟩, ⟨(some 111), (.call (.c (.fn 100 [] [])) [(.t 110), (.c (.int .i64 1)), (.c (.int .i64 20))]), (some (108, true))⟩, ⟨(some 112), (.pick (.t 108) (.t 111) (.c (.bool false))), none⟩, ⟨(some 2), (.mv (.t 112)), none⟩])
.ret)
(.seq
(.seq
(.rg [⟨(some 114), (.bin .eql 3 (.t 4) (.c (.int .i64 9))), none⟩, ⟨(some 113), (.mv (.t 114)), none⟩])
(.cond (.t 113)
.skip
(.rg [⟨(some 115), (.bin .eql 3 (.t 4) (.c (.int .i64 10))), none⟩, ⟨(some 113), (.mv (.t 115)), none⟩])))
(.cond (.t 113)
(.seq
(.rg [⟨(some 116), (.faddr 60 (.t 1) 1), none⟩, ⟨(some 117), (.load 3 (.t 116)), none⟩, ⟨(some 118), (.call (.c (.fn 100 [] [])) [(.t 117), (.c (.int .i64 0)), (.c (.int .i64 3))]), none⟩, ⟨(some 119), (.mv (.t 118)), none⟩, ⟨(some 120), (.faddr 60 (.t 1) 2), (some (119, true))⟩, ⟨(some 121), (.load 3 (.t 120)), (some (119, true))⟩, ⟨(some 122), (.bin .eql 3 (.t 121) (.c (.int .i64 0))), (some (119, true))⟩, ⟨(some 123), (.pick (.t 119) (.t 122) (.c (.bool false))), none⟩, ⟨(some 124), (.mv (.t 123)), none⟩, ⟨(some 125), (.faddr 60 (.t 1) 3), (some (124, true))⟩, ⟨(some 126), (.load 3 (.t 125)), (some (124, true))⟩, ⟨(some 127), (.bin .eql 3 (.t 126) (.c (.int .i64 0))), (some (124, true))⟩, ⟨(some 128), (.pick (.t 124) (.t 127) (.c (.bool false))), none⟩, ⟨(some 2), (.mv (.t 128)), none⟩])
.ret)
.skip))))))))))))))))))
(.seq
(.rg [⟨(some 2), (.mv (.c (.bool false))), none⟩])
.ret)))
theorem ok87 : FnOk Try.prog 87 c87 129 1 [(.tmp 2)] := .of Try.func87 (by kernel_rfl) (by kernel_rfl) (by kernel_rfl) (by kernel_rfl) (by kernel_rfl) (by decide) (by kernel_rfl)
def c88 : SC :=
(.seq
(.rg [⟨(some 4), (.mv (.c (.int .i64 0))), none⟩])
(.seq
(.seq
(.rg [⟨(some 6), (.mv (.t 0)), none⟩, ⟨(some 7), (.len 34 (.t 6)), none⟩, ⟨(some 8), (.mv (.c (.int .i64 0))), none⟩])
(.block 0
(.loop
(.seq
(.rg [⟨(some 9), (.bin .lss 3 (.t 8) (.t 7)), none⟩])
(.seq
(.cond (.t 9)
.skip
(.exit 0))
(.seq
(.block 1
(.seq
(.rg [⟨(some 10), (.mv (.t 8)), none⟩, ⟨(some 5), (.mv (.t 10)), none⟩])
(.seq
(.rg [⟨(some 11), (.mv (.t 1)), none⟩, ⟨(some 12), (.mv (.t 0)), none⟩, ⟨(some 13), (.mv (.t 5)), none⟩, ⟨(some 14), (.iaddr 34 (.t 12) (.t 13)), none⟩, ⟨(some 15), (.load 60 (.t 14)), none⟩, ⟨(some 16), (.call (.t 11) [(.t 15)]), none⟩])
(.cond (.t 16)
(.seq
(.rg [⟨(some 17), (.mv (.t 5)), none⟩, ⟨(some 4), (.mv (.t 17)), none⟩])
.ret)
.skip))))
(.rg [⟨(some 18), (.bin .add 3 (.t 8) (.c (.int .i64 1))), none⟩, ⟨(some 8), (.mv (.t 18)), none⟩])))))))
(.seq
(.rg [⟨(some 4), (.mv (.c (.int .i64 (-1)))), none⟩])
.ret)))
theorem ok88 : FnOk Try.prog 88 c88 19 2 [(.tmp 4)] := .of Try.func88 (by kernel_rfl) (by kernel_rfl) (by kernel_rfl) (by kernel_rfl) (by kernel_rfl) (by decide) (by kernel_rfl)
def c89 : SC :=
(.seq
(.rg [⟨(some 1), (.box 60 (.t 0)), none⟩, ⟨(some 2), (.mv (.c (.bool false))), none⟩])
(.seq
(.rg [⟨(some 3), (.faddr 60 (.t 1) 0), none⟩, ⟨(some 4), (.load 3 (.t 3)), none⟩, ⟨(some 5), (.bin .eql 3 (.t 4) (.c (.int .i64 0))), none⟩, ⟨(some 2), (.mv (.t 5)), none⟩])
.ret))
theorem ok89 : FnOk Try.prog 89 c89 6 1 [(.tmp 2)] := .of Try.func89 (by kernel_rfl) (by kernel_rfl) (by kernel_rfl) (by kernel_rfl) (by kernel_rfl) (by decide) (by kernel_rfl)
def c90 : SC :=
(.seq
(.rg [⟨(some 2), (.mv (.c (.bool false))), none⟩])
(.seq
(.rg [⟨(some 10), (.mv (.t 0)), none⟩, ⟨(some 11), (.call (.c (.fn 101 [] [])) [(.t 10)]), none⟩, ⟨(some 3), (.mv (.t 11)), none⟩])
(.seq
(.rg [⟨(some 12), (.mv (.t 0)), none⟩, ⟨(some 13), (.len 34 (.t 12)), none⟩, ⟨(some 14), (.mksl 94 (.t 13) (.t 13)), none⟩, ⟨(some 4), (.mv (.t 14)), none⟩])
(.seq
(.seq
(.rg [⟨(some 15), (.mv (.t 3)), none⟩, ⟨(some 16), (.len 132 (.t 15)), none⟩, ⟨(some 17), (.mv (.c (.int .i64 0))), none⟩])
(.block 0
(.loop
(.seq
(.rg [⟨(some 18), (.bin .lss 3 (.t 17) (.t 16)), none⟩])
(.seq
(.cond (.t 18)
.skip
(.exit 0))
(.seq
(.block 1
(.seq
(.rg [⟨(some 19), (.iaddr 132 (.t 15) (.t 17)), none⟩, ⟨(some 20), (.load 135 (.t 19)), none⟩, ⟨(some 6), (.alloc 135), none⟩, ⟨none, (.store 135 (.t 6) (.t 20)), none⟩])
(.seq
(.seq
(.rg [⟨(some 21), (.faddr 135 (.t 6) 1), none⟩, ⟨(some 22), (.load 3 (.t 21)), none⟩, ⟨(some 23), (.mv (.t 0)), none⟩, ⟨(some 24), (.len 34 (.t 23)), none⟩, ⟨(some 25), (.bin .sub 3 (.t 24) (.c (.int .i64 1))), none⟩, ⟨(some 26), (.bin .geq 3 (.t 22) (.t 25)), none⟩])
(.cond (.t 26)
(.seq
(.rg [⟨(some 2), (.mv (.c (.bool false))), none⟩])
.ret)
.skip))
(.seq
(.seq
(.rg [⟨(some 27), (.mv (.t 3)), none⟩, ⟨(some 28), (.len 132 (.t 27)), none⟩, ⟨(some 29), (.mv (.c (.int .i64 0))), none⟩])
(.block 2
(.loop
(.seq
(.rg [⟨(some 30), (.bin .lss 3 (.t 29) (.t 28)), none⟩])
(.seq
(.cond (.t 30)
.skip
(.exit 2))
(.seq
(.block 3
(.seq
(.rg [⟨(some 31), (.iaddr 132 (.t 27) (.t 29)), none⟩, ⟨(some 32), (.load 135 (.t 31)), none⟩, ⟨(some 8), (.alloc 135), none⟩, ⟨none, (.store 135 (.t 8) (.t 32)), none⟩])
(.seq
(.rg [⟨(some 33), (.load 135 (.t 8)), none⟩, ⟨(some 34), (.faddr 135 (.t 6) 2), none⟩, ⟨(some 35), (.load 3 (.t 34)), none⟩, ⟨(some 36), (.call (.c (.fn 102 [] [])) [(.t 33), (.t 35)]), none⟩, ⟨(some 37), (.mv (.t 36)), none⟩, ⟨(some 38), (.load 135 (.t 6)), (some (37, true))⟩, ⟨(some 39), (.load 135 (.t 8)), (some (37, true))⟩, ⟨(some 40), (.call (.c (.fn 103 [] [])) [(.t 38), (.t 39)]), (some (37, true))⟩, ⟨(some 41), (.un .not (.t 40)), (some (37, true))⟩, ⟨(some 42), (.pick (.t 37) (.t 41) (.c (.bool false))), none⟩, ⟨(some 43), (.mv (.t 42)), none⟩, ⟨(some 44), (.load 135 (.t 6)), (some (43, false))⟩, ⟨(some 45), (.load 135 (.t 8)), (some (43, false))⟩, ⟨(some 46), (.call (.c (.fn 104 [] [])) [(.t 44), (.t 45)]), (some (43, false))⟩, ⟨(some 47), (.un .not (.t 46)), (some (43, false))⟩, ⟨(some 48), (.mv (.t 47)), (some (43, false))⟩, ⟨(some 49), (.load 135 (.t 6)), (some (48, true))⟩, ⟨(some 50), (.load 135 (.t 8)), (some (48, true))⟩, ⟨(some 51), (.call (.c (.fn 103 [] [])) [(.t 49), (.t 50)]), (some (48, true))⟩, ⟨(some 52), (.un .not (.t 51)), (some (48, true))⟩, ⟨(some 53), (.pick (.t 48) (.t 52) (.c (.bool false))), (some (43, false))⟩, ⟨(some 54), (.mv (.t 53)), (some (43, false))⟩, ⟨(some 55), (.load 135 (.t 8)), (some (54, true))⟩, ⟨(some 56), (.load 135 (.t 6)), (some (54, true))⟩, ⟨(some 57), (.call (.c (.fn 103 [] [])) [(.t 55), (.t 56)]), (some (54, true))⟩, ⟨(some 58), (.un .not (.t 57)), (some (54, true))⟩, ⟨(some 59), (.pick (.t 54) (.t 58) (.c (.bool false))), (some (43, false))⟩, ⟨(some 60), (.pick (.t 43) (.c (.bool true)) (.t 59)), none⟩])
(.cond (.t 60)
(.seq
(.rg [⟨(some 2), (.mv (.c (.bool false))), none⟩])
.ret)
.skip))))
(.rg [⟨(some 61), (.bin .add 3 (.t 29) (.c (.int .i64 1))), none⟩, ⟨(some 29), (.mv (.t 61)), none⟩])))))))
(.seq
(.rg [⟨(some 62), (.faddr 135 (.t 6) 0), none⟩, ⟨(some 63), (.load 3 (.t 62)), none⟩, ⟨(some 9), (.mv (.t 63)), none⟩])
(.block 4
(.loop
(.seq
(.seq
(.rg [⟨(some 64), (.faddr 135 (.t 6) 3), none⟩, ⟨(some 65), (.load 4 (.t 64)), none⟩, ⟨(some 66), (.mv (.t 65)), none⟩, ⟨(some 67), (.mv (.t 9)), (some (66, true))⟩, ⟨(some 68), (.faddr 135 (.t 6) 1), (some (66, true))⟩, ⟨(some 69), (.load 3 (.t 68)), (some (66, true))⟩, ⟨(some 70), (.bin .leq 3 (.t 67) (.t 69)), (some (66, true))⟩, ⟨(some 71), (.pick (.t 66) (.t 70) (.c (.bool false))), none⟩])
(.cond (.t 71)
.skip
(.exit 4)))
(.seq
(.block 5
(.rg [⟨(some 74), (.mv (.t 4)), none⟩, ⟨(some 75), (.mv (.t 9)), none⟩, ⟨(some 76), (.iaddr 94 (.t 74) (.t 75)), none⟩, ⟨(some 77), (.load 3 (.t 76)), none⟩, ⟨(some 78), (.bin .add 3 (.t 77) (.c (.int .i64 1))), none⟩, ⟨(some 79), (.iaddr 94 (.t 74) (.t 75)), none⟩, ⟨none, (.store 3 (.t 79) (.t 78)), none⟩]))
(.rg [⟨(some 72), (.mv (.t 9)), none⟩, ⟨(some 73), (.bin .add 3 (.t 72) (.c (.int .i64 1))), none⟩, ⟨(some 9), (.mv (.t 73)), none⟩]))))))))))
(.rg [⟨(some 80), (.bin .add 3 (.t 17) (.c (.int .i64 1))), none⟩, ⟨(some 17), (.mv (.t 80)), none⟩])))))))
(.seq
(.rg [⟨(some 81), (.mv (.t 4)), none⟩, ⟨(some 82), (.call (.c (.fn 92 [] [])) [(.t 81), (.c (.fn 105 [] []))]), none⟩, ⟨(some 83), (.un .not (.t 82)), none⟩, ⟨(some 2), (.mv (.t 83)), none⟩])
.ret)))))
theorem ok90 : FnOk Try.prog 90 c90 84 1 [(.tmp 2)] := .of Try.func90 (by kernel_rfl) (by kernel_rfl) (by kernel_rfl) (by kernel_rfl) (by kernel_rfl) (by decide) (by kernel_rfl)
def c91 : SC :=
(.seq
(.rg [⟨(some 2), (.mv (.c .nilsl)), none⟩])
(.seq
(.rg [⟨(some 7), (.mv (.t 0)), none⟩, ⟨(some 8), (.len 34 (.t 7)), none⟩, ⟨(some 9), (.mksl 119 (.t 8) (.t 8)), none⟩, ⟨(some 3), (.mv (.t 9)), none⟩])
(.seq
(.seq
(.rg [⟨(some 10), (.mv (.t 0)), none⟩, ⟨(some 11), (.call (.c (.fn 101 [] [])) [(.t 10)]), none⟩, ⟨(some 12), (.len 132 (.t 11)), none⟩, ⟨(some 13), (.mv (.c (.int .i64 0))), none⟩])
(.block 0
(.loop
(.seq
(.rg [⟨(some 14), (.bin .lss 3 (.t 13) (.t 12)), none⟩])
(.seq
(.cond (.t 14)
.skip
(.exit 0))
(.seq
(.block 1
(.seq
(.rg [⟨(some 15), (.mv (.t 13)), none⟩, ⟨(some 16), (.iaddr 132 (.t 11) (.t 13)), none⟩, ⟨(some 17), (.load 135 (.t 16)), none⟩, ⟨(some 5), (.alloc 135), none⟩, ⟨(some 4), (.mv (.t 15)), none⟩, ⟨none, (.store 135 (.t 5) (.t 17)), none⟩])
(.seq
(.rg [⟨(some 18), (.mv (.t 0)), none⟩, ⟨(some 19), (.len 34 (.t 18)), none⟩, ⟨(some 20), (.mv (.c (.int .i64 0))), none⟩])
(.block 2
(.loop
(.seq
(.rg [⟨(some 21), (.bin .lss 3 (.t 20) (.t 19)), none⟩])
(.seq
(.cond (.t 21)
.skip
(.exit 2))
(.seq
(.block 3
(.seq
(.rg [⟨(some 22), (.mv (.t 20)), none⟩, ⟨(some 6), (.mv (.t 22)), none⟩])
(.seq
(.rg [⟨(some 23), (.mv (.t 4)), none⟩, ⟨(some 24), (.bin .lss 3 (.t 23) (.c (.int .i64 24))), none⟩, ⟨(some 25), (.mv (.t 24)), none⟩, ⟨(some 26), (.load 135 (.t 5)), (some (25, true))⟩, ⟨(some 27), (.mv (.t 6)), (some (25, true))⟩, ⟨(some 28), (.call (.c (.fn 102 [] [])) [(.t 26), (.t 27)]), (some (25, true))⟩, ⟨(some 29), (.pick (.t 25) (.t 28) (.c (.bool false))), none⟩])
(.cond (.t 29)
(.rg [⟨(some 30), (.mv (.t 3)), none⟩, ⟨(some 31), (.mv (.t 6)), none⟩, ⟨(some 32), (.mv (.t 4)), none⟩, ⟨(some 33), (.iaddr 119 (.t 30) (.t 31)), none⟩, ⟨(some 34), (.iaddr 122 (.t 33) (.t 32)), none⟩, ⟨none, (.store 4 (.t 34) (.c (.bool true))), none⟩])
.skip))))
(.rg [⟨(some 35), (.bin .add 3 (.t 20) (.c (.int .i64 1))), none⟩, ⟨(some 20), (.mv (.t 35)), none⟩])))))))))
(.rg [⟨(some 36), (.bin .add 3 (.t 13) (.c (.int .i64 1))), none⟩, ⟨(some 13), (.mv (.t 36)), none⟩])))))))
(.seq
(.rg [⟨(some 37), (.mv (.t 3)), none⟩, ⟨(some 2), (.mv (.t 37)), none⟩])
.ret))))
theorem ok91 : FnOk Try.prog 91 c91 38 1 [(.tmp 2)] := .of Try.func91 (by kernel_rfl) (by kernel_rfl) (by kernel_rfl) (by kernel_rfl) (by kernel_rfl) (by decide) (by kernel_rfl)
def c92 : SC :=
(.seq
(.rg [⟨(some 4), (.mv (.c (.bool false))), none⟩])
(.seq
(.rg [⟨(some 5), (.mv (.t 0)), none⟩, ⟨(some 6), (.mv (.t 1)), none⟩, ⟨(some 7), (.call (.c (.fn 106 [] [])) [(.t 5), (.t 6)]), none⟩, ⟨(some 8), (.bin .geq 3 (.t 7) (.c (.int .i64 0))), none⟩, ⟨(some 4), (.mv (.t 8)), none⟩])
.ret))
theorem ok92 : FnOk Try.prog 92 c92 9 2 [(.tmp 4)] := .of Try.func92 (by kernel_rfl) (by kernel_rfl) (by kernel_rfl) (by kernel_rfl) (by kernel_rfl) (by decide) (by kernel_rfl)
def c93 : SC :=
(.seq
(.rg [⟨(some 3), (.mv (.c (.bool false))), none⟩])
(.seq
(.rg [⟨(some 4), (.mv (.t 0)), none⟩, ⟨(some 5), (.load 3 (.t 1)), none⟩, ⟨(some 6), (.bin .gtr 3 (.t 4) (.t 5)), none⟩, ⟨(some 3), (.mv (.t 6)), none⟩])
.ret))
theorem ok93 : FnOk Try.prog 93 c93 7 2 [(.tmp 3)] := .of Try.func93 (by kernel_rfl) (by kernel_rfl) (by kernel_rfl) (by kernel_rfl) (by kernel_rfl) (by decide) (by kernel_rfl)
def c94 : SC :=
(.seq
(.rg [⟨(some 1), (.box 60 (.t 0)), none⟩, ⟨(some 2), (.mv (.c (.bool false))), none⟩])
(.seq
(.rg [⟨(some 3), (.faddr 60 (.t 1) 0), none⟩, ⟨(some 4), (.load 3 (.t 3)), none⟩, ⟨(some 5), (.bin .eql 3 (.t 4) (.c (.int .i64 9))), none⟩, ⟨(some 2), (.mv (.t 5)), none⟩])
.ret))
theorem ok94 : FnOk Try.prog 94 c94 6 1 [(.tmp 2)] := .of Try.func94 (by kernel_rfl) (by kernel_rfl) (by kernel_rfl) (by kernel_rfl) (by kernel_rfl) (by decide) (by kernel_rfl)
def c96 : SC :=
(.seq
(.rg [⟨(some 4), (.mv (.c (.bool false))), none⟩])
(.seq
(.dr [⟨(some 5), (.load 34 (.t 1)), none⟩, ⟨(some 6), (.mv (.t 0)), none⟩, ⟨(some 7), (.iaddr 34 (.t 5) (.t 6)), none⟩, ⟨(some 8), (.faddr 60 (.t 7) 1), none⟩, ⟨(some 9), (.load 3 (.t 8)), none⟩, ⟨(some 10), (.load 34 (.t 1)), none⟩, ⟨(some 11), (.load 3 (.t 2)), none⟩, ⟨(some 12), (.iaddr 34 (.t 10) (.t 11)), none⟩, ⟨(some 13), (.faddr 60 (.t 12) 1), none⟩, ⟨(some 14), (.load 3 (.t 13)), none⟩, ⟨(some 15), (.bin .eql 3 (.t 9) (.t 14)), none⟩, ⟨(some 4), (.mv (.t 15)), none⟩] [[], [], [0, 1], [2], [3], [], [], [5, 6], [7], [8], [4, 9], [10, 0, 1, 2, 3, 4, 5, 6, 7, 8, 9, 10]])
.ret))
theorem ok96 : FnOk Try.prog 96 c96 16 3 [(.tmp 4)] := .of Try.func96 (by kernel_rfl) (by kernel_rfl) (by kernel_rfl) (by kernel_rfl) (by kernel_rfl) (by decide) (by kernel_rfl)
def c98 : SC :=
(.seq
(.rg [⟨(some 2), (.box 130 (.t 0)), none⟩, ⟨(some 4), (.mv (.c (.bool false))), none⟩])
(.seq
(.rg [⟨(some 5), (.mv (.t 1)), none⟩, ⟨(some 6), (.bin .geq 3 (.t 5) (.c (.int .i64 0))), none⟩, ⟨(some 7), (.mv (.t 6)), none⟩, ⟨(some 8), (.mv (.t 1)), (some (7, true))⟩, ⟨(some 9), (.faddr 130 (.t 2) 0), (some (7, true))⟩, ⟨(some 10), (.load 3 (.t 9)), (some (7, true))⟩, ⟨(some 11), (.bin .lss 3 (.t 8) (.t 10)), (some (7, true))⟩, ⟨(some 12), (.pick (.t 7) (.t 11) (.c (.bool false))), none⟩, ⟨(some 4), (.mv (.t 12)), none⟩])
.ret))
theorem ok98 : FnOk Try.prog 98 c98 13 2 [(.tmp 4)] := .of Try.func98 (by kernel_rfl) (by kernel_rfl) (by kernel_rfl) (by kernel_rfl) (by kernel_rfl) (by decide) (by kernel_rfl)
def c99 : SC :=
(.seq
(.rg [⟨(some 2), (.mv (.c (.bool false))), none⟩])
(.seq
(.rg [⟨(some 3), (.mv (.t 0)), none⟩, ⟨(some 4), (.bin .geq 3 (.t 3) (.c (.int .i64 0))), none⟩, ⟨(some 5), (.mv (.t 4)), none⟩, ⟨(some 6), (.mv (.t 0)), (some (5, true))⟩, ⟨(some 7), (.bin .lss 3 (.t 6) (.c (.int .i64 8))), (some (5, true))⟩, ⟨(some 8), (.pick (.t 5) (.t 7) (.c (.bool false))), none⟩, ⟨(some 2), (.mv (.t 8)), none⟩])
.ret))
theorem ok99 : FnOk Try.prog 99 c99 9 1 [(.tmp 2)] := .of Try.func99 (by kernel_rfl) (by kernel_rfl) (by kernel_rfl) (by kernel_rfl) (by kernel_rfl) (by decide) (by kernel_rfl)
def c100 : SC :=
(.seq
(.rg [⟨(some 6), (.mv (.c (.bool false))), none⟩])
(.seq
(.rg [⟨(some 7), (.mv (.t 0)), none⟩, ⟨(some 8), (.mv (.t 1)), none⟩, ⟨(some 9), (.bin .geq 3 (.t 7) (.t 8)), none⟩, ⟨(some 10), (.mv (.t 9)), none⟩, ⟨(some 11), (.mv (.t 0)), (some (10, true))⟩, ⟨(some 12), (.mv (.t 2)), (some (10, true))⟩, ⟨(some 13), (.bin .leq 3 (.t 11) (.t 12)), (some (10, true))⟩, ⟨(some 14), (.pick (.t 10) (.t 13) (.c (.bool false))), none⟩, ⟨(some 6), (.mv (.t 14)), none⟩])
.ret))
theorem ok100 : FnOk Try.prog 100 c100 15 3 [(.tmp 6)] := .of Try.func100 (by kernel_rfl) (by kernel_rfl) (by kernel_rfl) (by kernel_rfl) (by kernel_rfl) (by decide) (by kernel_rfl)
def c101 : SC :=
(.seq
(.rg [⟨(some 2), (.mv (.c .nilsl)), none⟩])
(.seq
(.seq
(.rg [⟨(some 5), (.mv (.t 0)), none⟩, ⟨(some 6), (.len 34 (.t 5)), none⟩, ⟨(some 7), (.mv (.c (.int .i64 0))), none⟩])
(.block 0
(.loop
(.seq
(.rg [⟨(some 8), (.bin .lss 3 (.t 7) (.t 6)), none⟩])
(.seq
(.cond (.t 8)
.skip
(.exit 0))
(.seq
(.block 1
(.seq
(.rg [⟨(some 9), (.mv (.t 7)), none⟩, ⟨(some 10), (.iaddr 34 (.t 5) (.t 7)), none⟩, ⟨(some 11), (.load 60 (.t 10)), none⟩, ⟨(some 4), (.alloc 60), none⟩, ⟨(some 3), (.mv (.t 9)), none⟩, ⟨none, (.store 60 (.t 4) (.t 11)), none⟩])
(.seq
(.rg [⟨(some 12), (.faddr 60 (.t 4) 0), none⟩, ⟨(some 13), (.load 3 (.t 12)), none⟩])
(.block 2
(.seq
(.rg [⟨(some 15), (.bin .eql 3 (.t 13) (.c (.int .i64 8))), none⟩, ⟨(some 14), (.mv (.t 15)), none⟩])
(.cond (.t 14)
(.rg [⟨(some 16), (.mv (.t 2)), none⟩, ⟨(some 17), (.mv (.t 3)), none⟩, ⟨(some 18), (.bin .add 3 (.t 17) (.c (.int .i64 1))), none⟩, ⟨(some 19), (.mv (.t 3)), none⟩, ⟨(some 20), (.faddr 60 (.t 4) 2), none⟩, ⟨(some 21), (.load 3 (.t 20)), none⟩, ⟨(some 22), (.bin .add 3 (.t 19) (.t 21)), none⟩, ⟨(some 23), (.mv (.t 3)), none⟩, ⟨(some 24), (.build 135 [(0, (.t 18)), (1, (.t 22)), (2, (.t 23)), (3, (.c (.bool true)))]), none⟩, ⟨(some 25), (.bsl 132 1 [(0, (.t 24))]), none⟩, ⟨(some 26), (.app 132 132 (.t 16) (.t 25)), none⟩, ⟨(some 2), (.mv (.t 26)), none⟩])
(.seq
(.rg [⟨(some 28), (.bin .eql 3 (.t 13) (.c (.int .i64 7))), none⟩, ⟨(some 27), (.mv (.t 28)), none⟩])
(.cond (.t 27)
(.rg [⟨(some 29), (.mv (.t 2)), none⟩, ⟨(some 30), (.mv (.t 3)), none⟩, ⟨(some 31), (.bin .add 3 (.t 30) (.c (.int .i64 1))), none⟩, ⟨(some 32), (.mv (.t 3)), none⟩, ⟨(some 33), (.faddr 60 (.t 4) 3), none⟩, ⟨(some 34), (.load 3 (.t 33)), none⟩, ⟨(some 35), (.bin .add 3 (.t 32) (.t 34)), none⟩, ⟨(some 36), (.mv (.t 3)), none⟩, ⟨(some 37), (.build 135 [(0, (.t 31)), (1, (.t 35)), (2, (.t 36)), (3, (.c (.bool false)))]), none⟩, ⟨(some 38), (.bsl 132 1 [(0, (.t 37))]), none⟩, ⟨(some 39), (.app 132 132 (.t 29) (.t 38)), none⟩, ⟨(some 2), (.mv (.t 39)), none⟩])
.skip))))))))
(.rg [⟨(some 40), (.bin .add 3 (.t 7) (.c (.int .i64 1))), none⟩, ⟨(some 7), (.mv (.t 40)), none⟩])))))))
(.seq
(.rg [⟨(some 41), (.mv (.t 2)), none⟩, ⟨(some 2), (.mv (.t 41)), none⟩])
.ret)))
theorem ok101 : FnOk Try.prog 101 c101 42 1 [(.tmp 2)] := .of Try.func101 (by kernel_rfl) (by kernel_rfl) (by kernel_rfl) (by kernel_rfl) (by kernel_rfl) (by decide) (by kernel_rfl)
def c102 : SC :=
(.seq
(.rg [⟨(some 2), (.box 135 (.t 0)), none⟩, ⟨(some 4), (.mv (.c (.bool false))), none⟩])
(.seq
(.rg [⟨(some 5), (.mv (.t 1)), none⟩, ⟨(some 6), (.faddr 135 (.t 2) 0), none⟩, ⟨(some 7), (.load 3 (.t 6)), none⟩, ⟨(some 8), (.bin .geq 3 (.t 5) (.t 7)), none⟩, ⟨(some 9), (.mv (.t 8)), none⟩, ⟨(some 10), (.mv (.t 1)), (some (9, true))⟩, ⟨(some 11), (.faddr 135 (.t 2) 1), (some (9, true))⟩, ⟨(some 12), (.load 3 (.t 11)), (some (9, true))⟩, ⟨(some 13), (.bin .leq 3 (.t 10) (.t 12)), (some (9, true))⟩, ⟨(some 14), (.pick (.t 9) (.t 13) (.c (.bool false))), none⟩, ⟨(some 4), (.mv (.t 14)), none⟩])
.ret))
theorem ok102 : FnOk Try.prog 102 c102 15 2 [(.tmp 4)] := .of Try.func102 (by kernel_rfl) (by kernel_rfl) (by kernel_rfl) (by kernel_rfl) (by kernel_rfl) (by decide) (by kernel_rfl)
def c103 : SC :=
(.seq
(.rg [⟨(some 2), (.box 135 (.t 0)), none⟩, ⟨(some 3), (.box 135 (.t 1)), none⟩, ⟨(some 4), (.mv (.c (.bool false))), none⟩])
(.seq
(.rg [⟨(some 5), (.load 135 (.t 3)), none⟩, ⟨(some 6), (.faddr 135 (.t 2) 0), none⟩, ⟨(some 7), (.load 3 (.t 6)), none⟩, ⟨(some 8), (.call (.c (.fn 102 [] [])) [(.t 5), (.t 7)]), none⟩, ⟨(some 9), (.mv (.t 8)), none⟩, ⟨(some 10), (.load 135 (.t 3)), (some (9, true))⟩, ⟨(some 11), (.faddr 135 (.t 2) 1), (some (9, true))⟩, ⟨(some 12), (.load 3 (.t 11)), (some (9, true))⟩, ⟨(some 13), (.call (.c (.fn 102 [] [])) [(.t 10), (.t 12)]), (some (9, true))⟩, ⟨(some 14), (.pick (.t 9) (.t 13) (.c (.bool false))), none⟩, ⟨(some 4), (.mv (.t 14)), none⟩])
.ret))
theorem ok103 : FnOk Try.prog 103 c103 15 2 [(.tmp 4)] := .of Try.func103 (by kernel_rfl) (by kernel_rfl) (by kernel_rfl) (by kernel_rfl) (by kernel_rfl) (by decide) (by kernel_rfl)
def c104 : SC :=
(.seq
(.rg [⟨(some 2), (.box 135 (.t 0)), none⟩, ⟨(some 3), (.box 135 (.t 1)), none⟩, ⟨(some 4), (.mv (.c (.bool false))), none⟩])
(.seq
(.rg [⟨(some 5), (.faddr 135 (.t 2) 1), none⟩, ⟨(some 6), (.load 3 (.t 5)), none⟩, ⟨(some 7), (.faddr 135 (.t 3) 0), none⟩, ⟨(some 8), (.load 3 (.t 7)), none⟩, ⟨(some 9), (.bin .lss 3 (.t 6) (.t 8)), none⟩, ⟨(some 10), (.mv (.t 9)), none⟩, ⟨(some 11), (.faddr 135 (.t 3) 1), (some (10, false))⟩, ⟨(some 12), (.load 3 (.t 11)), (some (10, false))⟩, ⟨(some 13), (.faddr 135 (.t 2) 0), (some (10, false))⟩, ⟨(some 14), (.load 3 (.t 13)), (some (10, false))⟩, ⟨(some 15), (.bin .lss 3 (.t 12) (.t 14)), (some (10, false))⟩, ⟨(some 16), (.pick (.t 10) (.c (.bool true)) (.t 15)), none⟩, ⟨(some 4), (.mv (.t 16)), none⟩])
.ret))
theorem ok104 : FnOk Try.prog 104 c104 17 2 [(.tmp 4)] := .of Try.func104 (by kernel_rfl) (by kernel_rfl) (by kernel_rfl) (by kernel_rfl) (by kernel_rfl) (by decide) (by kernel_rfl)
def c105 : SC :=
(.seq
(.rg [⟨(some 2), (.mv (.c (.bool false))), none⟩])
(.seq
(.rg [⟨(some 3), (.mv (.t 0)), none⟩, ⟨(some 4), (.bin .gtr 3 (.t 3) (.c (.int .i64 2))), none⟩, ⟨(some 2), (.mv (.t 4)), none⟩])
.ret))
theorem ok105 : FnOk Try.prog 105 c105 5 1 [(.tmp 2)] := .of Try.func105 (by kernel_rfl) (by kernel_rfl) (by kernel_rfl) (by kernel_rfl) (by kernel_rfl) (by decide) (by kernel_rfl)
def c106 : SC :=
(.seq
(.rg [⟨(some 4), (.mv (.c (.int .i64 0))), none⟩])
(.seq
(.seq
(.rg [⟨(some 6), (.mv (.t 0)), none⟩, ⟨(some 7), (.len 94 (.t 6)), none⟩, ⟨(some 8), (.mv (.c (.int .i64 0))), none⟩])
(.block 0
(.loop
(.seq
(.rg [⟨(some 9), (.bin .lss 3 (.t 8) (.t 7)), none⟩])
(.seq
(.cond (.t 9)
.skip
(.exit 0))
(.seq
(.block 1
(.seq
(.rg [⟨(some 10), (.mv (.t 8)), none⟩, ⟨(some 5), (.mv (.t 10)), none⟩])
(.seq
(.rg [⟨(some 11), (.mv (.t 1)), none⟩, ⟨(some 12), (.mv (.t 0)), none⟩, ⟨(some 13), (.mv (.t 5)), none⟩, ⟨(some 14), (.iaddr 94 (.t 12) (.t 13)), none⟩, ⟨(some 15), (.load 3 (.t 14)), none⟩, ⟨(some 16), (.call (.t 11) [(.t 15)]), none⟩])
(.cond (.t 16)
(.seq
(.rg [⟨(some 17), (.mv (.t 5)), none⟩, ⟨(some 4), (.mv (.t 17)), none⟩])
.ret)
.skip))))
(.rg [⟨(some 18), (.bin .add 3 (.t 8) (.c (.int .i64 1))), none⟩, ⟨(some 8), (.mv (.t 18)), none⟩])))))))
(.seq
(.rg [⟨(some 4), (.mv (.c (.int .i64 (-1)))), none⟩])
.ret)))
theorem ok106 : FnOk Try.prog 106 c106 19 2 [(.tmp 4)] := .of Try.func106 (by kernel_rfl) (by kernel_rfl) (by kernel_rfl) (by kernel_rfl) (by kernel_rfl) (by decide) (by kernel_rfl)
end Go.Fv
/- MADE BY PROGRAM (wip/tools/codes.py). -/
namespace Go.Fv
open Go.Proofs
def c44 : SC :=
(.seq
(.rg [⟨(some 2), (.alloc 75), none⟩, ⟨(some 3), (.mv (.c (.bool false))), none⟩])
(.seq
(.seq
(.rg [⟨(some 12), (.mv (.t 0)), none⟩, ⟨(some 13), (.call (.c (.fn 59 [] [])) [(.t 12)]), none⟩, ⟨(some 14), (.un .not (.t 13)), none⟩])
(.cond (.t 14)
(.seq
(.rg [⟨(some 15), (.build 75 []), none⟩, ⟨none, (.store 75 (.t 2) (.t 15)), none⟩, ⟨(some 3), (.mv (.c (.bool false))), none⟩])
.ret)
.skip))
(.seq
(.rg [⟨(some 16), (.build 75 []), none⟩, ⟨(some 4), (.alloc 75), none⟩, ⟨none, (.store 75 (.t 4) (.t 16)), none⟩])
(.seq
(.rg [⟨(some 17), (.mv (.t 0)), none⟩, ⟨(some 18), (.call (.c (.fn 60 [] [])) [(.t 17)]), none⟩, ⟨(some 5), (.mv (.t 18)), none⟩])
(.seq
(.rg [⟨(some 20), (.mv (.t 0)), none⟩, ⟨(some 21), (.call (.c (.fn 61 [] [])) [(.t 20)]), none⟩, ⟨(some 19), (.mv (.t 21)), none⟩, ⟨(some 22), (.ext (.t 19) 0), none⟩, ⟨(some 23), (.ext (.t 19) 1), none⟩, ⟨(some 6), (.mv (.t 22)), none⟩, ⟨(some 7), (.mv (.t 23)), none⟩])
(.seq
(.rg [⟨(some 8), (.mv (.c (.int .i64 0))), none⟩])
(.seq
(.seq
(.rg [⟨(some 9), (.mv (.c (.int .i64 0))), none⟩])
(.block 0
(.loop
(.seq
(.seq
(.rg [⟨(some 24), (.mv (.t 9)), none⟩, ⟨(some 25), (.mv (.t 0)), none⟩, ⟨(some 26), (.len 34 (.t 25)), none⟩, ⟨(some 27), (.bin .lss 3 (.t 24) (.t 26)), none⟩])
(.cond (.t 27)
.skip
(.exit 0)))
(.seq
(.block 1
(.seq
(.dr [⟨(some 30), (.faddr 75 (.t 4) 0), none⟩, ⟨(some 31), (.load 2 (.t 30)), none⟩, ⟨(some 32), (.mv (.t 5)), none⟩, ⟨(some 33), (.mv (.t 9)), none⟩, ⟨(some 34), (.iaddr 26 (.t 32) (.t 33)), none⟩, ⟨(some 35), (.load 2 (.t 34)), none⟩, ⟨(some 36), (.bin .add 2 (.t 31) (.t 35)), none⟩, ⟨(some 37), (.mv (.t 8)), none⟩, ⟨(some 38), (.mv (.t 5)), none⟩, ⟨(some 39), (.mv (.t 9)), none⟩, ⟨(some 40), (.iaddr 26 (.t 38) (.t 39)), none⟩, ⟨(some 41), (.load 2 (.t 40)), none⟩, ⟨(some 42), (.bin .add 2 (.t 37) (.t 41)), none⟩, ⟨(some 43), (.faddr 75 (.t 4) 0), none⟩, ⟨none, (.store 2 (.t 43) (.t 36)), none⟩, ⟨(some 8), (.mv (.t 42)), none⟩] [[], [0], [], [], [2, 3], [4], [1, 5], [], [], [], [8, 9], [10], [7, 11], [0, 1, 2, 3, 4, 5, 6], [13, 6, 0, 1, 2, 3, 4, 5, 6], [12, 14, 0, 1, 2, 3, 4, 5, 6, 7, 8, 9, 10, 11, 12, 13, 14]])
(.seq
(.seq
(.rg [⟨(some 44), (.mv (.t 0)), none⟩, ⟨(some 45), (.mv (.t 9)), none⟩, ⟨(some 46), (.iaddr 34 (.t 44) (.t 45)), none⟩, ⟨(some 47), (.faddr 60 (.t 46) 0), none⟩, ⟨(some 48), (.load 3 (.t 47)), none⟩, ⟨(some 49), (.bin .eql 3 (.t 48) (.c (.int .i64 11))), none⟩, ⟨(some 50), (.mv (.t 49)), none⟩, ⟨(some 51), (.mv (.t 0)), (some (50, false))⟩, ⟨(some 52), (.mv (.t 9)), (some (50, false))⟩, ⟨(some 53), (.iaddr 34 (.t 51) (.t 52)), (some (50, false))⟩, ⟨(some 54), (.faddr 60 (.t 53) 0), (some (50, false))⟩, ⟨(some 55), (.load 3 (.t 54)), (some (50, false))⟩, ⟨(some 56), (.bin .eql 3 (.t 55) (.c (.int .i64 0))), (some (50, false))⟩, ⟨(some 57), (.pick (.t 50) (.c (.bool true)) (.t 56)), none⟩])
(.cond (.t 57)
(.rg [⟨(some 58), (.faddr 75 (.t 4) 1), none⟩, ⟨(some 59), (.load 2 (.t 58)), none⟩, ⟨(some 60), (.mv (.t 8)), none⟩, ⟨(some 61), (.max (.t 59) (.t 60)), none⟩, ⟨(some 62), (.faddr 75 (.t 4) 1), none⟩, ⟨none, (.store 2 (.t 62) (.t 61)), none⟩, ⟨(some 8), (.mv (.c (.int .i64 0))), none⟩])
.skip))
(.seq
(.rg [⟨(some 63), (.mv (.t 0)), none⟩, ⟨(some 64), (.mv (.t 9)), none⟩, ⟨(some 65), (.iaddr 34 (.t 63) (.t 64)), none⟩, ⟨(some 66), (.faddr 60 (.t 65) 0), none⟩, ⟨(some 67), (.load 3 (.t 66)), none⟩, ⟨(some 68), (.bin .eql 3 (.t 67) (.c (.int .i64 9))), none⟩])
(.cond (.t 68)
(.seq
(.rg [⟨(some 10), (.mv (.c (.int .i64 0))), none⟩])
(.seq
(.seq
(.rg [⟨(some 69), (.mv (.t 9)), none⟩, ⟨(some 70), (.bin .add 3 (.t 69) (.c (.int .i64 1))), none⟩, ⟨(some 11), (.mv (.t 70)), none⟩])
(.block 2
(.loop
(.seq
(.seq
(.rg [⟨(some 71), (.mv (.t 11)), none⟩, ⟨(some 72), (.mv (.t 6)), none⟩, ⟨(some 73), (.mv (.t 9)), none⟩, ⟨(some 74), (.iaddr 94 (.t 72) (.t 73)), none⟩, ⟨(some 75), (.load 3 (.t 74)), none⟩, ⟨(some 76), (.bin .leq 3 (.t 71) (.t 75)), none⟩])
(.cond (.t 76)
.skip
(.exit 2)))
(.seq
(.block 3
(.rg [⟨(some 79), (.mv (.t 10)), none⟩, ⟨(some 80), (.mv (.t 5)), none⟩, ⟨(some 81), (.mv (.t 11)), none⟩, ⟨(some 82), (.iaddr 26 (.t 80) (.t 81)), none⟩, ⟨(some 83), (.load 2 (.t 82)), none⟩, ⟨(some 84), (.bin .add 2 (.t 79) (.t 83)), none⟩, ⟨(some 10), (.mv (.t 84)), none⟩]))
(.rg [⟨(some 77), (.mv (.t 11)), none⟩, ⟨(some 78), (.bin .add 3 (.t 77) (.c (.int .i64 1))), none⟩, ⟨(some 11), (.mv (.t 78)), none⟩]))))))
(.dr [⟨(some 85), (.faddr 75 (.t 4) 2), none⟩, ⟨(some 86), (.load 44 (.t 85)), none⟩, ⟨(some 87), (.mv (.t 0)), none⟩, ⟨(some 88), (.mv (.t 9)), none⟩, ⟨(some 89), (.iaddr 34 (.t 87) (.t 88)), none⟩, ⟨(some 90), (.faddr 60 (.t 89) 1), none⟩, ⟨(some 91), (.load 3 (.t 90)), none⟩, ⟨(some 92), (.mv (.t 10)), none⟩, ⟨(some 93), (.mv (.t 5)), none⟩, ⟨(some 94), (.mv (.t 9)), none⟩, ⟨(some 95), (.iaddr 26 (.t 93) (.t 94)), none⟩, ⟨(some 96), (.load 2 (.t 95)), none⟩, ⟨(some 97), (.bin .quo 2 (.t 92) (.t 96)), none⟩, ⟨(some 98), (.build 73 [(0, (.t 91)), (1, (.t 97))]), none⟩, ⟨(some 99), (.bsl 44 1 [(0, (.t 98))]), none⟩, ⟨(some 100), (.app 44 44 (.t 86) (.t 99)), none⟩, ⟨(some 101), (.faddr 75 (.t 4) 2), none⟩, ⟨none, (.store 44 (.t 101) (.t 100)), none⟩] [[], [0], [], [], [2, 3], [4], [5], [], [], [], [8, 9], [10], [7, 11], [6, 12], [13], [1, 14], [0, 1, 2, 3, 4, 5, 6, 7, 8, 9, 10, 11, 12, 13, 14, 15], [16, 15, 15, 0, 1, 2, 3, 4, 5, 6, 7, 8, 9, 10, 11, 12, 13, 14, 15]])))
.skip)))))
(.rg [⟨(some 28), (.mv (.t 9)), none⟩, ⟨(some 29), (.bin .add 3 (.t 28) (.c (.int .i64 1))), none⟩, ⟨(some 9), (.mv (.t 29)), none⟩]))))))
(.seq
(.rg [⟨(some 102), (.load 75 (.t 4)), none⟩, ⟨none, (.store 75 (.t 2) (.t 102)), none⟩, ⟨(some 3), (.mv (.c (.bool true))), none⟩])
.ret))))))))
theorem ok44 : FnOk Try.prog 44 c44 103 1 [(.cell 2 75), (.tmp 3)] := .of Try.func44 (by kernel_rfl) (by kernel_rfl) (by kernel_rfl) (by kernel_rfl) (by kernel_rfl) (by decide) (by kernel_rfl)
def c46 : SC :=
(.seq
(.rg [⟨(some 1), (.box 36 (.t 0)), none⟩, ⟨(some 2), (.mv (.c (.int .i64 0))), none⟩])
(.seq
(.block 0
(.seq
(.rg [⟨(some 4), (.faddr 36 (.t 1) 0), none⟩, ⟨(some 5), (.load 3 (.t 4)), none⟩, ⟨(some 6), (.bin .lss 3 (.t 5) (.c (.int .i64 0))), none⟩, ⟨(some 7), (.mv (.t 6)), none⟩, ⟨(some 8), (.faddr 36 (.t 1) 0), (some (7, false))⟩, ⟨(some 9), (.load 3 (.t 8)), (some (7, false))⟩, ⟨(some 10), (.bin .gtr 3 (.t 9) (.c (.int .i64 63))), (some (7, false))⟩, ⟨(some 11), (.pick (.t 7) (.c (.bool true)) (.t 10)), none⟩, ⟨(some 3), (.mv (.t 11)), none⟩])
(.cond (.t 3)
(.seq
(.rg [⟨(some 2), (.mv (.c (.int .i64 1))), none⟩])
.ret)
(.seq
(.rg [⟨(some 13), (.faddr 36 (.t 1) 1), none⟩, ⟨(some 14), (.load 2 (.t 13)), none⟩, ⟨(some 15), (.bin .lss 2 (.t 14) (.c (.int .i64 1))), none⟩, ⟨(some 16), (.mv (.t 15)), none⟩, ⟨(some 17), (.faddr 36 (.t 1) 1), (some (16, false))⟩, ⟨(some 18), (.load 2 (.t 17)), (some (16, false))⟩, ⟨(some 19), (.bin .gtr 2 (.t 18) (.c (.int .i64 16384))), (some (16, false))⟩, ⟨(some 20), (.pick (.t 16) (.c (.bool true)) (.t 19)), none⟩, ⟨(some 21), (.mv (.t 20)), none⟩, ⟨(some 22), (.faddr 36 (.t 1) 2), (some (21, false))⟩, ⟨(some 23), (.load 2 (.t 22)), (some (21, false))⟩, ⟨(some 24), (.bin .lss 2 (.t 23) (.c (.int .i64 1))), (some (21, false))⟩, ⟨(some 25), (.pick (.t 21) (.c (.bool true)) (.t 24)), none⟩, ⟨(some 26), (.mv (.t 25)), none⟩, ⟨(some 27), (.faddr 36 (.t 1) 2), (some (26, false))⟩, ⟨(some 28), (.load 2 (.t 27)), (some (26, false))⟩, ⟨(some 29), (.faddr 36 (.t 1) 1), (some (26, false))⟩, ⟨(some 30), (.load 2 (.t 29)), (some (26, false))⟩, ⟨(some 31), (.bin .gtr 2 (.t 28) (.t 30)), (some (26, false))⟩, ⟨(some 32), (.pick (.t 26) (.c (.bool true)) (.t 31)), none⟩, ⟨(some 12), (.mv (.t 32)), none⟩])
(.cond (.t 12)
(.seq
(.rg [⟨(some 2), (.mv (.c (.int .i64 9))), none⟩])
.ret)
(.seq
(.rg [⟨(some 34), (.faddr 36 (.t 1) 3), none⟩, ⟨(some 35), (.load 34 (.t 34)), none⟩, ⟨(some 36), (.call (.c (.fn 63 [] [])) [(.t 35)]), none⟩, ⟨(some 37), (.un .not (.t 36)), none⟩, ⟨(some 38), (.mv (.t 37)), none⟩, ⟨(some 39), (.faddr 36 (.t 1) 4), (some (38, false))⟩, ⟨(some 40), (.load 34 (.t 39)), (some (38, false))⟩, ⟨(some 41), (.call (.c (.fn 64 [] [])) [(.t 40)]), (some (38, false))⟩, ⟨(some 42), (.un .not (.t 41)), (some (38, false))⟩, ⟨(some 43), (.pick (.t 38) (.c (.bool true)) (.t 42)), none⟩, ⟨(some 44), (.mv (.t 43)), none⟩, ⟨(some 45), (.faddr 36 (.t 1) 5), (some (44, false))⟩, ⟨(some 46), (.load 34 (.t 45)), (some (44, false))⟩, ⟨(some 47), (.call (.c (.fn 64 [] [])) [(.t 46)]), (some (44, false))⟩, ⟨(some 48), (.un .not (.t 47)), (some (44, false))⟩, ⟨(some 49), (.pick (.t 44) (.c (.bool true)) (.t 48)), none⟩, ⟨(some 50), (.mv (.t 49)), none⟩, ⟨(some 51), (.faddr 36 (.t 1) 5), (some (50, false))⟩, ⟨(some 52), (.load 34 (.t 51)), (some (50, false))⟩, ⟨(some 53), (.call (.c (.fn 65 [] [])) [(.t 52)]), (some (50, false))⟩, ⟨(some 54), (.pick (.t 50) (.c (.bool true)) (.t 53)), none⟩, ⟨(some 33), (.mv (.t 54)), none⟩])
(.cond (.t 33)
(.seq
(.rg [⟨(some 2), (.mv (.c (.int .i64 2))), none⟩])
.ret)
(.seq
(.dr [⟨(some 56), (.faddr 36 (.t 1) 3), none⟩, ⟨(some 57), (.load 34 (.t 56)), none⟩, ⟨(some 58), (.call (.c (.fn 66 [] [])) [(.t 57)]), none⟩, ⟨(some 59), (.faddr 36 (.t 1) 2), none⟩, ⟨(some 60), (.load 2 (.t 59)), none⟩, ⟨(some 61), (.bin .gtr 2 (.t 58) (.t 60)), none⟩, ⟨(some 55), (.mv (.t 61)), none⟩] [[], [0], [1], [], [3], [2, 4], [5, 2]])
(.cond (.t 55)
(.seq
(.rg [⟨(some 2), (.mv (.c (.int .i64 10))), none⟩])
.ret)
(.seq
(.dr [⟨(some 63), (.faddr 36 (.t 1) 4), none⟩, ⟨(some 64), (.load 34 (.t 63)), none⟩, ⟨(some 65), (.call (.c (.fn 66 [] [])) [(.t 64)]), none⟩, ⟨(some 66), (.faddr 36 (.t 1) 3), none⟩, ⟨(some 67), (.load 34 (.t 66)), none⟩, ⟨(some 68), (.call (.c (.fn 66 [] [])) [(.t 67)]), none⟩, ⟨(some 69), (.bin .gtr 2 (.t 65) (.t 68)), none⟩, ⟨(some 62), (.mv (.t 69)), none⟩] [[], [0], [1], [], [3], [4, 2], [2, 5], [6, 5]])
(.cond (.t 62)
(.seq
(.rg [⟨(some 2), (.mv (.c (.int .i64 12))), none⟩])
.ret)
.skip)))))))))))
(.seq
(.rg [⟨(some 2), (.mv (.c (.int .i64 0))), none⟩])
.ret)))
theorem ok46 : FnOk Try.prog 46 c46 70 1 [(.tmp 2)] := .of Try.func46 (by kernel_rfl) (by kernel_rfl) (by kernel_rfl) (by kernel_rfl) (by kernel_rfl) (by decide) (by kernel_rfl)
def c52 : SC :=
(.seq
(.rg [⟨(some 2), (.mv (.c (.bool false))), none⟩])
(.seq
(.seq
(.rg [⟨(some 3), (.mv (.c (.int .i64 0))), none⟩])
(.block 0
(.loop
(.seq
(.seq
(.rg [⟨(some 4), (.mv (.t 3)), none⟩, ⟨(some 5), (.mv (.t 0)), none⟩, ⟨(some 6), (.len 34 (.t 5)), none⟩, ⟨(some 7), (.bin .lss 3 (.t 4) (.t 6)), none⟩])
(.cond (.t 7)
.skip
(.exit 0)))
(.seq
(.block 1
(.seq
(.rg [⟨(some 10), (.mv (.t 0)), none⟩, ⟨(some 11), (.mv (.t 3)), none⟩, ⟨(some 12), (.iaddr 34 (.t 10) (.t 11)), none⟩, ⟨(some 13), (.faddr 60 (.t 12) 0), none⟩, ⟨(some 14), (.load 3 (.t 13)), none⟩, ⟨(some 15), (.bin .eql 3 (.t 14) (.c (.int .i64 9))), none⟩])
(.cond (.t 15)
(.seq
(.rg [⟨(some 2), (.mv (.c (.bool true))), none⟩])
.ret)
.skip)))
(.rg [⟨(some 8), (.mv (.t 3)), none⟩, ⟨(some 9), (.bin .add 3 (.t 8) (.c (.int .i64 1))), none⟩, ⟨(some 3), (.mv (.t 9)), none⟩]))))))
(.seq
(.rg [⟨(some 2), (.mv (.c (.bool false))), none⟩])
.ret)))
theorem ok52 : FnOk Try.prog 52 c52 16 1 [(.tmp 2)] := .of Try.func52 (by kernel_rfl) (by kernel_rfl) (by kernel_rfl) (by kernel_rfl) (by kernel_rfl) (by decide) (by kernel_rfl)
end Go.Fv
/- CONTRACTS: small ones. -/
namespace Go.Fv
open Go.Proofs

/-- A piece of a code that belongs together: from, to, what it is of, whether it is a body. -/
structure Area where
  p : Int
  q : Int
  o : Int
  body : Bool
def Area.row (x : Area) : List DV := [.int .i64 x.p, .int .i64 x.q, .int .i64 x.o, .bool x.body]
def Area.has (x : Area) (i : Int) : Bool := decide (x.p ≤ i) && decide (i ≤ x.q)

theorem s_area_has (x : Area) (i : Int) : Pure Try.prog 83 [.agg x.row, .int .i64 i] (.bool (x.has i)) := by
  refine Spec.walk ok83 fun C Q hP hN hQ => ?_
  unfold c83
  simp only [EV, EX, hP, reduceIte, Nat.reduceEqDiff, Nat.reduceAdd, Nat.reduceSub, binA, IN, Area.row, MX, buildA, fillA, faddrA, load_ptr, load_fp, rowOf_eq, packA, TK.isAgg, cellsOf, cellD, boxA, allocA, storeA, putCells, Nat.reduceLeDiff, extA, ty114, ty3]
  refine gdS_td (fun h => ?_) (fun h => ?_)
  · simp only [EV, EX, hP, reduceIte, Nat.reduceEqDiff, Nat.reduceAdd, Nat.reduceSub, binA, IN, MX, buildA, fillA, faddrA, load_ptr, load_fp, rowOf_eq, packA, TK.isAgg, cellsOf, cellD, boxA, allocA, storeA, putCells, Nat.reduceLeDiff, extA, ty114, ty3, pickA, h, decide_true]
    refine hQ _ <| retQ_pure _ rfl rfl ⟨?_, rfl⟩
    simp only [retV, Area.has, h, decide_true, Bool.true_and]
  · simp only [EV, EX, hP, reduceIte, Nat.reduceEqDiff, Nat.reduceAdd, Nat.reduceSub, binA, IN, pickA, h, decide_false]
    refine hQ _ <| retQ_pure _ rfl rfl ⟨?_, rfl⟩
    simp only [retV, Area.has, h, decide_false, Bool.false_and]

theorem s_piece_has (x : Area) (i : Int) : Pure Try.prog 102 [.agg x.row, .int .i64 i] (.bool (x.has i)) := by
  refine Spec.walk ok102 fun C Q hP hN hQ => ?_
  unfold c102
  simp only [EV, EX, hP, reduceIte, Nat.reduceEqDiff, Nat.reduceAdd, Nat.reduceSub, binA, IN, Area.row, MX, buildA, fillA, faddrA, load_ptr, load_fp, rowOf_eq, packA, TK.isAgg, cellsOf, cellD, boxA, allocA, storeA, putCells, Nat.reduceLeDiff, extA, ty135, ty3]
  refine gdS_td (fun h => ?_) (fun h => ?_)
  · simp only [EV, EX, hP, reduceIte, Nat.reduceEqDiff, Nat.reduceAdd, Nat.reduceSub, binA, IN, MX, buildA, fillA, faddrA, load_ptr, load_fp, rowOf_eq, packA, TK.isAgg, cellsOf, cellD, boxA, allocA, storeA, putCells, Nat.reduceLeDiff, extA, ty135, ty3, pickA, h, decide_true]
    refine hQ _ <| retQ_pure _ rfl rfl ⟨?_, rfl⟩
    simp only [retV, Area.has, h, decide_true, Bool.true_and]
  · simp only [EV, EX, hP, reduceIte, Nat.reduceEqDiff, Nat.reduceAdd, Nat.reduceSub, binA, IN, pickA, h, decide_false]
    refine hQ _ <| retQ_pure _ rfl rfl ⟨?_, rfl⟩
    simp only [retV, Area.has, h, decide_false, Bool.false_and]

def Area.within (x y : Area) : Bool := y.has x.p && y.has x.q
def Area.apart (x y : Area) : Bool := decide (x.q < y.p) || decide (y.q < x.p)

theorem s_piece_within (x y : Area) : Pure Try.prog 103 [.agg x.row, .agg y.row] (.bool (x.within y)) := by
  refine Spec.walk ok103 fun C Q hP hN hQ => ?_
  unfold c103
  simp only [EV, EX, hP, reduceIte, Nat.reduceEqDiff, Nat.reduceAdd, Nat.reduceSub, binA, IN, Area.row, MX, buildA, fillA, faddrA, load_ptr, load_fp, rowOf_eq, packA, TK.isAgg, cellsOf, cellD, boxA, allocA, storeA, putCells, Nat.reduceLeDiff, extA, ty135, ty3]
  refine callW_pure hP (s_piece_has y x.p) rfl rfl ?_
  simp only [EV, EX, hP, reduceIte, Nat.reduceEqDiff, Nat.reduceAdd, Nat.reduceSub, binA, IN]
  refine gdS_t (fun h => ?_) (fun h => ?_)
  · simp only [EV, EX, hP, reduceIte, Nat.reduceEqDiff, Nat.reduceAdd, Nat.reduceSub, binA, IN, MX, buildA, fillA, faddrA, load_ptr, load_fp, rowOf_eq, packA, TK.isAgg, cellsOf, cellD, boxA, allocA, storeA, putCells, Nat.reduceLeDiff, extA, ty135, ty3, h]
    refine callW_pure hP (s_piece_has y x.q) rfl rfl ?_
    simp only [EV, EX, hP, reduceIte, Nat.reduceEqDiff, Nat.reduceAdd, Nat.reduceSub, binA, IN, pickA, h]
    refine hQ _ <| retQ_pure _ rfl rfl ⟨?_, rfl⟩
    simp only [retV, Area.within, h, Bool.true_and]
  · simp only [EV, EX, hP, reduceIte, Nat.reduceEqDiff, Nat.reduceAdd, Nat.reduceSub, binA, IN, pickA, h]
    refine hQ _ <| retQ_pure _ rfl rfl ⟨?_, rfl⟩
    simp only [retV, Area.within, h, Bool.false_and]

theorem s_piece_apart (x y : Area) : Pure Try.prog 104 [.agg x.row, .agg y.row] (.bool (x.apart y)) := by
  refine Spec.walk ok104 fun C Q hP hN hQ => ?_
  unfold c104
  simp only [EV, EX, hP, reduceIte, Nat.reduceEqDiff, Nat.reduceAdd, Nat.reduceSub, binA, IN, Area.row, MX, buildA, fillA, faddrA, load_ptr, load_fp, rowOf_eq, packA, TK.isAgg, cellsOf, cellD, boxA, allocA, storeA, putCells, Nat.reduceLeDiff, extA, ty135, ty3]
  refine gdS_fd (fun h => ?_) (fun h => ?_)
  · simp only [EV, EX, hP, reduceIte, Nat.reduceEqDiff, Nat.reduceAdd, Nat.reduceSub, binA, IN, MX, buildA, fillA, faddrA, load_ptr, load_fp, rowOf_eq, packA, TK.isAgg, cellsOf, cellD, boxA, allocA, storeA, putCells, Nat.reduceLeDiff, extA, ty135, ty3, pickA, h, decide_false]
    refine hQ _ <| retQ_pure _ rfl rfl ⟨?_, rfl⟩
    simp only [retV, Area.apart, h, decide_false, Bool.false_or]
  · simp only [EV, EX, hP, reduceIte, Nat.reduceEqDiff, Nat.reduceAdd, Nat.reduceSub, binA, IN, pickA, h, decide_true]
    refine hQ _ <| retQ_pure _ rfl rfl ⟨?_, rfl⟩
    simp only [retV, Area.apart, h, decide_true, Bool.true_or]

theorem s_places_has (n a : Int) : Pure Try.prog 98 [.agg [.int .i64 n], .int .i64 a] (.bool (decide (0 ≤ a) && decide (a < n))) := by
  refine Spec.walk ok98 fun C Q hP hN hQ => ?_
  unfold c98
  simp only [EV, EX, hP, reduceIte, Nat.reduceEqDiff, Nat.reduceAdd, Nat.reduceSub, binA, IN, MX, buildA, fillA, faddrA, load_ptr, load_fp, rowOf_eq, packA, TK.isAgg, cellsOf, cellD, boxA, allocA, storeA, putCells, Nat.reduceLeDiff, extA, ty130, ty3]
  refine gdS_td (fun h => ?_) (fun h => ?_)
  · simp only [EV, EX, hP, reduceIte, Nat.reduceEqDiff, Nat.reduceAdd, Nat.reduceSub, binA, IN, MX, buildA, fillA, faddrA, load_ptr, load_fp, rowOf_eq, packA, TK.isAgg, cellsOf, cellD, boxA, allocA, storeA, putCells, Nat.reduceLeDiff, extA, ty130, ty3, pickA, h, decide_true]
    refine hQ _ <| retQ_pure _ rfl rfl ⟨?_, rfl⟩
    simp only [retV, h, decide_true, Bool.true_and]
  · simp only [EV, EX, hP, reduceIte, Nat.reduceEqDiff, Nat.reduceAdd, Nat.reduceSub, binA, IN, pickA, h, decide_false]
    refine hQ _ <| retQ_pure _ rfl rfl ⟨?_, rfl⟩
    simp only [retV, h, decide_false, Bool.false_and]
end Go.Fv
/- CONTRACTS: small ones of the document's answer. -/
namespace Go.Fv
open Go.Proofs

end Go.Fv
/- CONTRACTS: code.May. -/
namespace Go.Fv
open Go.Proofs

def mem8 (a : Int) : Bool := decide (0 ≤ a) && decide (a < 8)
def btw (v a b : Int) : Bool := decide (a ≤ v) && decide (v ≤ b)

theorem s_memory (a : Int) : Pure Try.prog 99 [.int .i64 a] (.bool (mem8 a)) := by
  refine Spec.walk ok99 fun C Q hP hN hQ => ?_
  unfold c99
  simp only [EV, EX, hP, reduceIte, Nat.reduceEqDiff, Nat.reduceAdd, Nat.reduceSub, binA, IN]
  refine gdS_td (fun h => ?_) (fun h => ?_) <;> simp only [EV, EX, hP, reduceIte, Nat.reduceEqDiff, Nat.reduceAdd, Nat.reduceSub, binA, IN, pickA, h, decide_true, decide_false] <;> refine hQ _ <| retQ_pure _ rfl rfl ⟨?_, rfl⟩ <;> simp only [retV, mem8, h, decide_true, decide_false, Bool.true_and, Bool.false_and]

theorem s_within (v a b : Int) : Pure Try.prog 100 [.int .i64 v, .int .i64 a, .int .i64 b] (.bool (btw v a b)) := by
  refine Spec.walk ok100 fun C Q hP hN hQ => ?_
  unfold c100
  simp only [EV, EX, hP, reduceIte, Nat.reduceEqDiff, Nat.reduceAdd, Nat.reduceSub, binA, IN]
  refine gdS_td (fun h => ?_) (fun h => ?_) <;> simp only [EV, EX, hP, reduceIte, Nat.reduceEqDiff, Nat.reduceAdd, Nat.reduceSub, binA, IN, pickA, h, decide_true, decide_false] <;> refine hQ _ <| retQ_pure _ rfl rfl ⟨?_, rfl⟩ <;> simp only [retV, btw, h, decide_true, decide_false, Bool.true_and, Bool.false_and]

/-- Whether an instruction may be. -/
def Inst.may (x : Inst) : Bool :=
  if x.op = 0 then decide (x.a = 0) && decide (x.b = 0) && decide (x.n = 0)
  else if x.op = 11 then decide (x.a = 0) && decide (x.b = 0) && decide (x.n = 0)
  else if x.op = 1 then mem8 x.a && decide (x.b = 0) && btw x.n (-2147483648) 2147483647
  else if x.op = 2 then mem8 x.a && mem8 x.b && decide (x.n = 0)
  else if x.op = 3 then mem8 x.a && mem8 x.b && decide (x.n = 0)
  else if x.op = 4 then mem8 x.a && mem8 x.b && decide (x.n = 0)
  else if x.op = 5 then mem8 x.a && decide (x.b = 0) && btw x.n (-63) 63
  else if x.op = 6 then mem8 x.a && decide (x.b = 0) && btw x.n 1 64
  else if x.op = 7 then mem8 x.a && decide (x.b = 0) && btw x.n 1 24
  else if x.op = 8 then decide (x.a = 0) && btw x.b 1 24 && btw x.n 1 20
  else if x.op = 9 then btw x.a 0 3 && decide (x.b = 0) && decide (x.n = 0)
  else if x.op = 10 then btw x.a 0 3 && decide (x.b = 0) && decide (x.n = 0)
  else false

set_option maxRecDepth 100000 in
theorem s_codeMay (x : Inst) : Pure Try.prog 87 [.agg x.row] (.bool x.may) := by
  refine Spec.walk ok87 fun C Q hP hN hQ => ?_
  unfold c87
  obtain ⟨o, a, b, n⟩ := x
  simp only [EV, EX, hP, reduceIte, Nat.reduceEqDiff, Nat.reduceAdd, Nat.reduceSub, binA, IN, MX, buildA, fillA, faddrA, load_ptr, load_fp, rowOf_eq, packA, TK.isAgg, cellsOf, cellD, boxA, allocA, storeA, putCells, Nat.reduceLeDiff, extA, Inst.row, ty60, ty3]
  repeat' (first
    | (refine condS_d (fun h => ?_) (fun h => ?_) <;> simp only [EV, EX, hP, reduceIte, Nat.reduceEqDiff, Nat.reduceAdd, Nat.reduceSub, binA, IN, MX, buildA, fillA, faddrA, load_ptr, load_fp, rowOf_eq, packA, TK.isAgg, cellsOf, cellD, boxA, allocA, storeA, putCells, Nat.reduceLeDiff, extA, ty60, ty3, pickA, h, decide_true, decide_false])
    | (refine gdS_td (fun h => ?_) (fun h => ?_) <;> simp only [EV, EX, hP, reduceIte, Nat.reduceEqDiff, Nat.reduceAdd, Nat.reduceSub, binA, IN, MX, buildA, fillA, faddrA, load_ptr, load_fp, rowOf_eq, packA, TK.isAgg, cellsOf, cellD, boxA, allocA, storeA, putCells, Nat.reduceLeDiff, extA, ty60, ty3, pickA, h, decide_true, decide_false])
    | (refine gdS_t (fun h => ?_) (fun h => ?_) <;> simp only [EV, EX, hP, reduceIte, Nat.reduceEqDiff, Nat.reduceAdd, Nat.reduceSub, binA, IN, MX, buildA, fillA, faddrA, load_ptr, load_fp, rowOf_eq, packA, TK.isAgg, cellsOf, cellD, boxA, allocA, storeA, putCells, Nat.reduceLeDiff, extA, ty60, ty3, pickA, h])
    | (refine callW_pure hP (s_memory _) rfl rfl ?_; simp only [EV, EX, hP, reduceIte, Nat.reduceEqDiff, Nat.reduceAdd, Nat.reduceSub, binA, IN, MX, buildA, fillA, faddrA, load_ptr, load_fp, rowOf_eq, packA, TK.isAgg, cellsOf, cellD, boxA, allocA, storeA, putCells, Nat.reduceLeDiff, extA, ty60, ty3, pickA])
    | (refine callW_pure hP (s_within _ _ _) rfl rfl ?_; simp only [EV, EX, hP, reduceIte, Nat.reduceEqDiff, Nat.reduceAdd, Nat.reduceSub, binA, IN, MX, buildA, fillA, faddrA, load_ptr, load_fp, rowOf_eq, packA, TK.isAgg, cellsOf, cellD, boxA, allocA, storeA, putCells, Nat.reduceLeDiff, extA, ty60, ty3, pickA])
    | (refine hQ _ <| retQ_pure _ rfl rfl ⟨?_, rfl⟩))
  all_goals simp_all [retV, Inst.may]
end Go.Fv
/- CONTRACTS: the document's MayInst. -/
namespace Go.Fv
open Go.Proofs

set_option maxRecDepth 100000 in
theorem s_mayInst (x : Inst) : Pure Try.prog 81 [.agg x.row] (.bool x.may) := by
  refine Spec.walk ok81 fun C Q hP hN hQ => ?_
  unfold c81
  obtain ⟨o, a, b, n⟩ := x
  simp only [EV, EX, hP, reduceIte, Nat.reduceEqDiff, Nat.reduceAdd, Nat.reduceSub, binA, IN, MX, buildA, fillA, faddrA, load_ptr, load_fp, rowOf_eq, packA, TK.isAgg, cellsOf, cellD, boxA, allocA, storeA, putCells, Nat.reduceLeDiff, extA, Inst.row, ty60, ty3, ty130]
  repeat' (first
    | (refine condS_d (fun h => ?_) (fun h => ?_) <;> simp only [EV, EX, hP, reduceIte, Nat.reduceEqDiff, Nat.reduceAdd, Nat.reduceSub, binA, IN, MX, buildA, fillA, faddrA, load_ptr, load_fp, rowOf_eq, packA, TK.isAgg, cellsOf, cellD, boxA, allocA, storeA, putCells, Nat.reduceLeDiff, extA, ty60, ty3, ty130, pickA, h, decide_true, decide_false])
    | (refine gdS_td (fun h => ?_) (fun h => ?_) <;> simp only [EV, EX, hP, reduceIte, Nat.reduceEqDiff, Nat.reduceAdd, Nat.reduceSub, binA, IN, MX, buildA, fillA, faddrA, load_ptr, load_fp, rowOf_eq, packA, TK.isAgg, cellsOf, cellD, boxA, allocA, storeA, putCells, Nat.reduceLeDiff, extA, ty60, ty3, ty130, pickA, h, decide_true, decide_false])
    | (refine gdS_t (fun h => ?_) (fun h => ?_) <;> simp only [EV, EX, hP, reduceIte, Nat.reduceEqDiff, Nat.reduceAdd, Nat.reduceSub, binA, IN, MX, buildA, fillA, faddrA, load_ptr, load_fp, rowOf_eq, packA, TK.isAgg, cellsOf, cellD, boxA, allocA, storeA, putCells, Nat.reduceLeDiff, extA, ty60, ty3, ty130, pickA, h])
    | (refine callW_pure hP (s_places_has _ _) rfl rfl ?_; simp only [EV, EX, hP, reduceIte, Nat.reduceEqDiff, Nat.reduceAdd, Nat.reduceSub, binA, IN, MX, buildA, fillA, faddrA, load_ptr, load_fp, rowOf_eq, packA, TK.isAgg, cellsOf, cellD, boxA, allocA, storeA, putCells, Nat.reduceLeDiff, extA, ty60, ty3, ty130, pickA])
    | (refine callW_pure hP (s_within _ _ _) rfl rfl ?_; simp only [EV, EX, hP, reduceIte, Nat.reduceEqDiff, Nat.reduceAdd, Nat.reduceSub, binA, IN, MX, buildA, fillA, faddrA, load_ptr, load_fp, rowOf_eq, packA, TK.isAgg, cellsOf, cellD, boxA, allocA, storeA, putCells, Nat.reduceLeDiff, extA, ty60, ty3, ty130, pickA])
    | (refine hQ _ <| retQ_pure _ rfl rfl ⟨?_, rfl⟩))
  all_goals simp_all [retV, Inst.may, mem8, btw]
  all_goals (first | omega | (intros; omega))
end Go.Fv
/- CONTRACTS: the document's areas. -/
namespace Go.Fv
open Go.Proofs

def areaAt (i : Nat) (x : Inst) : List Area :=
  if x.op = 7 then [⟨(i : Int) + 1, (i : Int) + x.n, i, false⟩] else if x.op = 8 then [⟨(i : Int) + 1, (i : Int) + x.b, i, true⟩] else []
def areasOf (l : List Inst) : List Area := l.zipIdx.flatMap fun x => areaAt x.2 x.1
def areaRows (l : List Area) : List (List DV) := l.map Area.row
theorem areaRows_plain (l : List Area) : plainR (areaRows l) = true := plainR_map fun _ => rfl
theorem areasOf_take {l : List Inst} {i : Nat} (h : i < l.length) : areasOf (l.take (i + 1)) = areasOf (l.take i) ++ areaAt i l[i] := by
  unfold areasOf
  rw [List.take_succ_eq_append_getElem h, List.zipIdx_append, List.flatMap_append]
  simp [Nat.min_eq_left (Nat.le_of_lt h)]

theorem areasOf_length (l : List Inst) : (areasOf l).length ≤ l.length := by
  unfold areasOf
  rw [List.length_flatMap]
  have : ∀ (m : List (Inst × Nat)), (m.map fun x => (areaAt x.2 x.1).length).sum ≤ m.length := by
    intro m
    induction m with
    | nil => simp
    | cons x m ih =>
      simp only [List.map_cons, List.sum_cons, List.length_cons]
      have : (areaAt x.2 x.1).length ≤ 1 := by
        unfold areaAt
        split
        · simp
        · split <;> simp
      omega
  simpa using this l.zipIdx

theorem lowB_same {M : Nm} {h : Nat → Option Blk} {k : Nat} {rs : List (List DV)} (hp : plainR rs = true) : TlB M h (.rows k rs) (.rows k rs) := by
  refine .rows k rs rs rfl (fun i x y hx hy => by rw [hx] at hy; cases hy; rfl) fun i j r s x y hr hs hx hy => ?_
  rw [hr] at hs; cases hs
  rw [hx] at hy; cases hy
  exact .same x (plainL_all.1 (plainR_all.1 hp r (List.mem_of_getElem? hr)) x (List.mem_of_getElem? hx))

set_option maxRecDepth 100000 in
theorem s_areas (l : List Inst) (hl : l.length ≤ 24) (hx : ∀ x ∈ l, x.may = true) : Pure Try.prog 82 [.fz 4 (instRows l)] (.fz 4 (areaRows (areasOf l))) := by
  refine Spec.walk ok82 fun C Q hP hN hQ => ?_
  unfold c82
  simp only [EV, EX, hP, reduceIte, Nat.reduceEqDiff, Nat.reduceAdd, Nat.reduceSub, binA, IN]
  refine LoopW.by (fun i => ⟨[(4, some (.int .i64 (i : Nat))), (3, some (.sl 4 0 0 (areasOf (l.take i)).length)), (0, some (.fz 4 (instRows l)))], [(0, some (.rows 4 (areaRows (areasOf (l.take i)))))], 16⟩) (fun i => i ≤ l.length) (fun i => l.length - i) 0 (Nat.zero_le _) ?_ ?_
  · refine Sub.tell ⟨0, [], [(0, 4)], []⟩ hN rfl ⟨⟨_, rfl, .same _ rfl⟩, ⟨_, rfl, .own 4 0 rfl⟩, ⟨_, rfl, .same _ (by simp only [plain, instRows_plain])⟩, trivial⟩ ⟨.inr ⟨4, rfl, rfl⟩, trivial⟩
  · intro i hi N hN'
    simp only [EV, EX, hP, reduceIte, Nat.reduceEqDiff, Nat.reduceAdd, Nat.reduceSub, binA, IN, len_fz ty34, instRows_length]
    refine condS_d (fun h => ?_) (fun h => ?_)
    · have hi2 : i < l.length := by omega
      have hb : (0 : Int) ≤ i ∧ (i : Int) < l.length := by omega
      simp only [EV, EX, hP, reduceIte, Nat.reduceEqDiff, Nat.reduceAdd, Nat.reduceSub, binA, IN, MX, buildA, fillA, faddrA, load_ptr, load_fp, rowOf_eq, packA, TK.isAgg, cellsOf, cellD, boxA, allocA, storeA, putCells, Nat.reduceLeDiff, extA, iaddr_fz, elSize_eq ty34 ty60, instRows_length, hb, instRows_getD hi2, Inst.row, ty60, ty3]
      have hm := hx l[i] (List.getElem_mem hi2)
      have w1 : IntKind.i64.wrap ((i : Int) + 1) = i + 1 := wrap_i64 (by omega) (by omega)
      have hal := areasOf_length (l.take i)
      have hal2 : (areasOf (l.take i)).length ≤ 24 := Nat.le_trans hal (by simp; omega)
      refine condS_d (fun h7 => ?_) (fun h7 => ?_)
      · have hn : 1 ≤ l[i].n ∧ l[i].n ≤ 24 := by simp [Inst.may, h7, btw] at hm; omega
        have w2 : IntKind.i64.wrap ((i : Int) + l[i].n) = i + l[i].n := wrap_i64 (by omega) (by omega)
        have he : areaAt i l[i] = [⟨(i : Int) + 1, (i : Int) + l[i].n, i, false⟩] := by simp only [areaAt, if_pos h7]
        have hle : (areasOf (l.take i)).length ≤ (areaRows (areasOf (l.take i))).length := by simp [areaRows]
        have hroom : (((areasOf (l.take i)).length : Int) + ((1 : Nat) : Int)) * ((32 : Nat) : Int) ≤ 140737488355328 := by omega
        have htk : (areaRows (areasOf (l.take i))).take (areasOf (l.take i)).length = areaRows (areasOf (l.take i)) := List.take_of_length_le (by simp [areaRows])
        simp only [EV, EX, hP, reduceIte, Nat.reduceEqDiff, Nat.reduceAdd, Nat.reduceSub, binA, IN, MX, buildA, fillA, faddrA, load_ptr, load_fp, rowOf_eq, packA, TK.isAgg, cellsOf, cellD, boxA, allocA, storeA, putCells, Nat.reduceLeDiff, extA, iaddr_fz, elSize_eq ty34 ty60, instRows_length, hb, instRows_getD hi2, Inst.row, ty60, ty3, w1, w2, ty114, bslA, elTI_eq ty111, setRows, List.replicate_succ, List.replicate_zero, List.getD_cons_zero, Nat.reduceLT, Nat.reduceMul, true_and, and_true, appA, ty111, rowsOf, hle, hroom, htk]
        refine hN' _ (i + 1) hi2 (by omega) (Sub.tell ⟨0, [(400, 0)], [], []⟩ hN rfl ⟨⟨_, rfl, by rw [show (((i + 1 : Nat)) : Int) = i + 1 from by omega]; exact .same _ rfl⟩, ⟨_, rfl, ?_⟩, ⟨_, rfl, .same _ (by simp only [plain, instRows_plain])⟩, trivial⟩ ⟨.inl ⟨400, _, rfl, by simp, rfl, ?_⟩, trivial⟩)
        · rw [areasOf_take hi2, he, List.length_append]
          exact .sl 4 400 0 0 _ rfl
        · rw [areasOf_take hi2, he]
          have e2 : areaRows (areasOf (l.take i) ++ [⟨(i : Int) + 1, (i : Int) + l[i].n, i, false⟩]) = areaRows (areasOf (l.take i)) ++ [[.int .i64 ((i : Int) + 1), .int .i64 ((i : Int) + l[i].n), .int .i64 i, .bool false]] := by simp [areaRows, Area.row]
          rw [← e2]
          exact lowB_same (areaRows_plain _)
      · simp only [EV, EX, hP, reduceIte, Nat.reduceEqDiff, Nat.reduceAdd, Nat.reduceSub, binA, IN, h7, decide_false]
        refine condS_d (fun h8 => ?_) (fun h8 => ?_)
        · have hn : 1 ≤ l[i].b ∧ l[i].b ≤ 24 := by simp [Inst.may, h8, btw] at hm; omega
          have w2 : IntKind.i64.wrap ((i : Int) + l[i].b) = i + l[i].b := wrap_i64 (by omega) (by omega)
          have he : areaAt i l[i] = [⟨(i : Int) + 1, (i : Int) + l[i].b, i, true⟩] := by simp only [areaAt, if_neg h7, if_pos h8]
          have hle : (areasOf (l.take i)).length ≤ (areaRows (areasOf (l.take i))).length := by simp [areaRows]
          have hroom : (((areasOf (l.take i)).length : Int) + ((1 : Nat) : Int)) * ((32 : Nat) : Int) ≤ 140737488355328 := by omega
          have htk : (areaRows (areasOf (l.take i))).take (areasOf (l.take i)).length = areaRows (areasOf (l.take i)) := List.take_of_length_le (by simp [areaRows])
          simp only [EV, EX, hP, reduceIte, Nat.reduceEqDiff, Nat.reduceAdd, Nat.reduceSub, binA, IN, MX, buildA, fillA, faddrA, load_ptr, load_fp, rowOf_eq, packA, TK.isAgg, cellsOf, cellD, boxA, allocA, storeA, putCells, Nat.reduceLeDiff, extA, iaddr_fz, elSize_eq ty34 ty60, instRows_length, hb, instRows_getD hi2, Inst.row, ty60, ty3, w1, w2, ty114, bslA, elTI_eq ty111, setRows, List.replicate_succ, List.replicate_zero, List.getD_cons_zero, Nat.reduceLT, Nat.reduceMul, true_and, and_true, appA, ty111, rowsOf, hle, hroom, htk]
          refine hN' _ (i + 1) hi2 (by omega) (Sub.tell ⟨0, [(432, 0)], [], []⟩ hN rfl ⟨⟨_, rfl, by rw [show (((i + 1 : Nat)) : Int) = i + 1 from by omega]; exact .same _ rfl⟩, ⟨_, rfl, ?_⟩, ⟨_, rfl, .same _ (by simp only [plain, instRows_plain])⟩, trivial⟩ ⟨.inl ⟨432, _, rfl, by simp, rfl, ?_⟩, trivial⟩)
          · rw [areasOf_take hi2, he, List.length_append]
            exact .sl 4 432 0 0 _ rfl
          · rw [areasOf_take hi2, he]
            have e2 : areaRows (areasOf (l.take i) ++ [⟨(i : Int) + 1, (i : Int) + l[i].b, i, true⟩]) = areaRows (areasOf (l.take i)) ++ [[.int .i64 ((i : Int) + 1), .int .i64 ((i : Int) + l[i].b), .int .i64 i, .bool true]] := by simp [areaRows, Area.row]
            rw [← e2]
            exact lowB_same (areaRows_plain _)
        · simp only [EV, EX, hP, reduceIte, Nat.reduceEqDiff, Nat.reduceAdd, Nat.reduceSub, binA, IN, w1]
          have he : areaAt i l[i] = [] := by simp only [areaAt, if_neg h7, if_neg h8]
          refine hN' _ (i + 1) hi2 (by omega) (Sub.tell ⟨1, [], [], []⟩ (fun n hn => absurd (hN n hn) (by omega)) rfl ⟨⟨_, rfl, by rw [show (((i + 1 : Nat)) : Int) = i + 1 from by omega]; exact .same _ rfl⟩, ⟨_, rfl, ?_⟩, ⟨_, rfl, .same _ (by simp only [plain, instRows_plain])⟩, trivial⟩ ⟨.inl ⟨0, _, rfl, by simp, rfl, ?_⟩, trivial⟩)
          · rw [areasOf_take hi2, he, List.append_nil]
            exact .sl 4 0 0 0 _ rfl
          · rw [areasOf_take hi2, he, List.append_nil]
            exact lowB_same (areaRows_plain _)
    · have hi2 : i = l.length := by omega
      subst hi2
      simp only [EV, EX, hP, reduceIte, Nat.reduceEqDiff, Nat.reduceAdd, Nat.reduceSub, binA, IN, List.take_length]
      refine hQ _ ⟨⟨0, [], [], [0]⟩, [.sl 4 0 0 (areasOf l).length], [.fz 4 (areaRows (areasOf l))], [], rfl, Nat.le_refl _, rfl, .cons _ _ _ _ (Tl.freeze (rs := areaRows (areasOf l)) (by simp) rfl (by simp [areaRows]) ?_ (areaRows_plain _) ?_) .nil, trivial, rfl, rfl⟩
      · rw [List.drop_zero, List.take_of_length_le (by simp [areaRows])]
      · intro r hr; obtain ⟨x, _, rfl⟩ := List.mem_map.1 hr; rfl
end Go.Fv
/- CONTRACTS: the document's hasLock. -/
namespace Go.Fv
open Go.Proofs

theorem s_hasLock (l : List Inst) (hl : l.length ≤ maxL) : Pure Try.prog 52 [.fz 4 (instRows l)] (.bool (l.any fun x => decide (x.op = 9))) := by
  have hl2 : l.length ≤ 281474976710656 := hl
  refine Spec.walk ok52 fun C Q hP hN hQ => ?_
  unfold c52
  simp only [EV, EX, hP, reduceIte, Nat.reduceEqDiff, Nat.reduceAdd, Nat.reduceSub, binA, IN]
  refine LoopW.by (fun i => ⟨[(3, some (.int .i64 (i : Nat))), (0, some (.fz 4 (instRows l)))], [], 0⟩) (fun i => i ≤ l.length ∧ ((l.take i).any fun x => decide (x.op = 9)) = false) (fun i => l.length - i) 0 ⟨Nat.zero_le _, rfl⟩ ?_ ?_
  · refine Sub.pl 0 hN (Nat.zero_le _) (Nat.zero_le _) ?_
    simp only [plT, EV, EX, hP, reduceIte, Nat.reduceEqDiff, Nat.reduceAdd, Nat.reduceSub, plain, instRows_plain, and_true]
    rfl
  · rintro i ⟨hi, hno⟩ N hN'
    simp only [EV, EX, hP, reduceIte, Nat.reduceEqDiff, Nat.reduceAdd, Nat.reduceSub, binA, IN, len_fz ty34, instRows_length]
    refine condS_d (fun h => ?_) (fun h => ?_)
    · have hi2 : i < l.length := by omega
      have hb : (0 : Int) ≤ i ∧ (i : Int) < l.length := by omega
      simp only [EV, EX, hP, reduceIte, Nat.reduceEqDiff, Nat.reduceAdd, Nat.reduceSub, binA, IN, MX, buildA, fillA, faddrA, load_ptr, load_fp, rowOf_eq, packA, TK.isAgg, cellsOf, cellD, boxA, allocA, storeA, putCells, Nat.reduceLeDiff, extA, iaddr_fz, elSize_eq ty34 ty60, instRows_length, hb, instRows_getD hi2, Inst.row, ty60, ty3]
      refine condS_d (fun h9 => ?_) (fun h9 => ?_)
      · simp only [EV, EX, hP, reduceIte, Nat.reduceEqDiff, Nat.reduceAdd, Nat.reduceSub, binA, IN]
        refine hQ _ <| retQ_pure _ rfl rfl ⟨?_, rfl⟩
        simp only [retV]
        rw [List.any_eq_true.2 ⟨l[i], List.getElem_mem hi2, by simpa using h9⟩]
      · simp only [EV, EX, hP, reduceIte, Nat.reduceEqDiff, Nat.reduceAdd, Nat.reduceSub, binA, IN]
        refine hN' _ (i + 1) ⟨hi2, ?_⟩ (by omega) (Sub.pl 0 hN (Nat.zero_le _) (Nat.zero_le _) ?_)
        · rw [List.take_succ_eq_append_getElem hi2, List.any_append, hno]; simpa using h9
        · simp only [plT, EV, EX, hP, reduceIte, Nat.reduceEqDiff, Nat.reduceAdd, Nat.reduceSub, plain, instRows_plain, and_true]
          rw [wrap_i64 (by omega) (by omega)]; rfl
    · have hi2 : i = l.length := by omega
      subst hi2
      simp only [EV, EX, hP, reduceIte, Nat.reduceEqDiff, Nat.reduceAdd, Nat.reduceSub, binA, IN]
      refine hQ _ <| retQ_pure _ rfl rfl ⟨?_, rfl⟩
      rw [List.take_length] at hno
      simp only [retV, hno]
end Go.Fv
/- CONTRACTS: shape.pieces. -/
namespace Go.Fv
open Go.Proofs

set_option maxRecDepth 100000 in
theorem s_pieces (l : List Inst) (hl : l.length ≤ 24) (hx : ∀ x ∈ l, x.may = true) : Pure Try.prog 101 [.fz 4 (instRows l)] (.fz 4 (areaRows (areasOf l))) := by
  refine Spec.walk ok101 fun C Q hP hN hQ => ?_
  unfold c101
  simp only [EV, EX, hP, reduceIte, Nat.reduceEqDiff, Nat.reduceAdd, Nat.reduceSub, binA, IN, len_fz ty34, instRows_length]
  refine LoopW.by (fun i => ⟨[(7, some (.int .i64 (i : Nat))), (2, some (.sl 4 0 0 (areasOf (l.take i)).length)), (5, some (.fz 4 (instRows l))), (6, some (.int .i64 l.length))], [(0, some (.rows 4 (areaRows (areasOf (l.take i)))))], 16⟩) (fun i => i ≤ l.length) (fun i => l.length - i) 0 (Nat.zero_le _) ?_ ?_
  · refine Sub.tell ⟨0, [], [(0, 4)], []⟩ hN rfl ⟨⟨_, rfl, .same _ rfl⟩, ⟨_, rfl, .own 4 0 rfl⟩, ⟨_, rfl, .same _ (by simp only [plain, instRows_plain])⟩, ⟨_, rfl, .same _ rfl⟩, trivial⟩ ⟨.inr ⟨4, rfl, rfl⟩, trivial⟩
  · intro i hi N hN'
    simp only [EV, EX, hP, reduceIte, Nat.reduceEqDiff, Nat.reduceAdd, Nat.reduceSub, binA, IN, len_fz ty34, instRows_length]
    refine condS_d (fun h => ?_) (fun h => ?_)
    · have hi2 : i < l.length := by omega
      have hb : (0 : Int) ≤ i ∧ (i : Int) < l.length := by omega
      simp only [EV, EX, hP, reduceIte, Nat.reduceEqDiff, Nat.reduceAdd, Nat.reduceSub, binA, IN, MX, buildA, fillA, faddrA, load_ptr, load_fp, rowOf_eq, packA, TK.isAgg, cellsOf, cellD, boxA, allocA, storeA, putCells, Nat.reduceLeDiff, extA, iaddr_fz, elSize_eq ty34 ty60, instRows_length, hb, instRows_getD hi2, Inst.row, ty60, ty3]
      have hm := hx l[i] (List.getElem_mem hi2)
      have w1 : IntKind.i64.wrap ((i : Int) + 1) = i + 1 := wrap_i64 (by omega) (by omega)
      have hal := areasOf_length (l.take i)
      have hal2 : (areasOf (l.take i)).length ≤ 24 := Nat.le_trans hal (by simp; omega)
      refine condS_d (fun hA => ?_) (fun hA => ?_)
      · have hn : 1 ≤ l[i].b ∧ l[i].b ≤ 24 := by simp [Inst.may, hA, btw] at hm; omega
        have w2 : IntKind.i64.wrap ((i : Int) + l[i].b) = i + l[i].b := wrap_i64 (by omega) (by omega)
        have he : areaAt i l[i] = [⟨(i : Int) + 1, (i : Int) + l[i].b, i, true⟩] := by simp only [areaAt, if_neg (show ¬ l[i].op = 7 by omega), if_pos hA]
        have hle : (areasOf (l.take i)).length ≤ (areaRows (areasOf (l.take i))).length := by simp [areaRows]
        have hroom : (((areasOf (l.take i)).length : Int) + ((1 : Nat) : Int)) * ((32 : Nat) : Int) ≤ 140737488355328 := by omega
        have htk : (areaRows (areasOf (l.take i))).take (areasOf (l.take i)).length = areaRows (areasOf (l.take i)) := List.take_of_length_le (by simp [areaRows])
        simp only [EV, EX, hP, reduceIte, Nat.reduceEqDiff, Nat.reduceAdd, Nat.reduceSub, binA, IN, MX, buildA, fillA, faddrA, load_ptr, load_fp, rowOf_eq, packA, TK.isAgg, cellsOf, cellD, boxA, allocA, storeA, putCells, Nat.reduceLeDiff, extA, iaddr_fz, elSize_eq ty34 ty60, instRows_length, hb, instRows_getD hi2, Inst.row, ty60, ty3, w1, w2, ty135, bslA, elTI_eq ty132, setRows, List.replicate_succ, List.replicate_zero, List.getD_cons_zero, Nat.reduceLT, Nat.reduceMul, true_and, and_true, appA, ty132, rowsOf, hle, hroom, htk]
        refine hN' _ (i + 1) hi2 (by omega) (Sub.tell ⟨0, [(352, 0)], [], []⟩ hN rfl ⟨⟨_, rfl, by rw [show (((i + 1 : Nat)) : Int) = i + 1 from by omega]; exact .same _ rfl⟩, ⟨_, rfl, ?_⟩, ⟨_, rfl, .same _ (by simp only [plain, instRows_plain])⟩, ⟨_, rfl, .same _ rfl⟩, trivial⟩ ⟨.inl ⟨352, _, rfl, by simp, rfl, ?_⟩, trivial⟩)
        · rw [areasOf_take hi2, he, List.length_append]
          exact .sl 4 352 0 0 _ rfl
        · rw [areasOf_take hi2, he]
          have e2 : areaRows (areasOf (l.take i) ++ [⟨(i : Int) + 1, (i : Int) + l[i].b, i, true⟩]) = areaRows (areasOf (l.take i)) ++ [[.int .i64 ((i : Int) + 1), .int .i64 ((i : Int) + l[i].b), .int .i64 i, .bool true]] := by simp [areaRows, Area.row]
          rw [← e2]
          exact lowB_same (areaRows_plain _)
      · simp only [EV, EX, hP, reduceIte, Nat.reduceEqDiff, Nat.reduceAdd, Nat.reduceSub, binA, IN, hA, decide_false]
        refine condS_d (fun hB => ?_) (fun hB => ?_)
        · have hn : 1 ≤ l[i].n ∧ l[i].n ≤ 24 := by simp [Inst.may, hB, btw] at hm; omega
          have w2 : IntKind.i64.wrap ((i : Int) + l[i].n) = i + l[i].n := wrap_i64 (by omega) (by omega)
          have he : areaAt i l[i] = [⟨(i : Int) + 1, (i : Int) + l[i].n, i, false⟩] := by simp only [areaAt, if_pos hB]
          have hle : (areasOf (l.take i)).length ≤ (areaRows (areasOf (l.take i))).length := by simp [areaRows]
          have hroom : (((areasOf (l.take i)).length : Int) + ((1 : Nat) : Int)) * ((32 : Nat) : Int) ≤ 140737488355328 := by omega
          have htk : (areaRows (areasOf (l.take i))).take (areasOf (l.take i)).length = areaRows (areasOf (l.take i)) := List.take_of_length_le (by simp [areaRows])
          simp only [EV, EX, hP, reduceIte, Nat.reduceEqDiff, Nat.reduceAdd, Nat.reduceSub, binA, IN, MX, buildA, fillA, faddrA, load_ptr, load_fp, rowOf_eq, packA, TK.isAgg, cellsOf, cellD, boxA, allocA, storeA, putCells, Nat.reduceLeDiff, extA, iaddr_fz, elSize_eq ty34 ty60, instRows_length, hb, instRows_getD hi2, Inst.row, ty60, ty3, w1, w2, ty135, bslA, elTI_eq ty132, setRows, List.replicate_succ, List.replicate_zero, List.getD_cons_zero, Nat.reduceLT, Nat.reduceMul, true_and, and_true, appA, ty132, rowsOf, hle, hroom, htk]
          refine hN' _ (i + 1) hi2 (by omega) (Sub.tell ⟨0, [(384, 0)], [], []⟩ hN rfl ⟨⟨_, rfl, by rw [show (((i + 1 : Nat)) : Int) = i + 1 from by omega]; exact .same _ rfl⟩, ⟨_, rfl, ?_⟩, ⟨_, rfl, .same _ (by simp only [plain, instRows_plain])⟩, ⟨_, rfl, .same _ rfl⟩, trivial⟩ ⟨.inl ⟨384, _, rfl, by simp, rfl, ?_⟩, trivial⟩)
          · rw [areasOf_take hi2, he, List.length_append]
            exact .sl 4 384 0 0 _ rfl
          · rw [areasOf_take hi2, he]
            have e2 : areaRows (areasOf (l.take i) ++ [⟨(i : Int) + 1, (i : Int) + l[i].n, i, false⟩]) = areaRows (areasOf (l.take i)) ++ [[.int .i64 ((i : Int) + 1), .int .i64 ((i : Int) + l[i].n), .int .i64 i, .bool false]] := by simp [areaRows, Area.row]
            rw [← e2]
            exact lowB_same (areaRows_plain _)
        · simp only [EV, EX, hP, reduceIte, Nat.reduceEqDiff, Nat.reduceAdd, Nat.reduceSub, binA, IN, w1]
          have he : areaAt i l[i] = [] := by simp only [areaAt, if_neg hB, if_neg hA]
          refine hN' _ (i + 1) hi2 (by omega) (Sub.tell ⟨1, [], [], []⟩ (fun n hn => absurd (hN n hn) (by omega)) rfl ⟨⟨_, rfl, by rw [show (((i + 1 : Nat)) : Int) = i + 1 from by omega]; exact .same _ rfl⟩, ⟨_, rfl, ?_⟩, ⟨_, rfl, .same _ (by simp only [plain, instRows_plain])⟩, ⟨_, rfl, .same _ rfl⟩, trivial⟩ ⟨.inl ⟨0, _, rfl, by simp, rfl, ?_⟩, trivial⟩)
          · rw [areasOf_take hi2, he, List.append_nil]
            exact .sl 4 0 0 0 _ rfl
          · rw [areasOf_take hi2, he, List.append_nil]
            exact lowB_same (areaRows_plain _)
    · have hi2 : i = l.length := by omega
      subst hi2
      simp only [EV, EX, hP, reduceIte, Nat.reduceEqDiff, Nat.reduceAdd, Nat.reduceSub, binA, IN, List.take_length]
      refine hQ _ ⟨⟨0, [], [], [0]⟩, [.sl 4 0 0 (areasOf l).length], [.fz 4 (areaRows (areasOf l))], [], rfl, Nat.le_refl _, rfl, .cons _ _ _ _ (Tl.freeze (rs := areaRows (areasOf l)) (by simp) rfl (by simp [areaRows]) ?_ (areaRows_plain _) ?_) .nil, trivial, rfl, rfl⟩
      · rw [List.drop_zero, List.take_of_length_le (by simp [areaRows])]
      · intro r hr; obtain ⟨x, _, rfl⟩ := List.mem_map.1 hr; rfl
end Go.Fv
/- ABSTRACT VALUES AND STATES (31): calls of closures of values without names. -/
namespace Go.Fv

theorem callW_clo {C : Ctx} {P : Program} {f : FuncId} {az caps : List DV} {d : DV} {S : St} {k : DV → St → Prop} (hP : C.P = P) (hs : Pure P f (az ++ caps) d) (ha : plainL (az ++ caps) = true) (hd : plain d = true)
    (hk : k d ⟨S.T, S.H, S.nx + 16⟩) : callW C (some (.fn f [] caps)) (some az) S k := by
  subst hP
  refine callW_of (callR_pure hs S.blk S.nx (by simp) ha hd) ?_
  rintro d' U ⟨rfl, rfl⟩
  exact hk

/-- The first that p tells of, or none: -1. -/
def idxOf {α : Type} (p : α → Bool) (l : List α) : Int := match l.findIdx? p with
  | some i => i
  | none => -1
end Go.Fv
/- CONTRACTS: slices.IndexFunc, slices.ContainsFunc of numbers. -/
namespace Go.Fv
open Go.Proofs

theorem idxOf_append_none {α : Type} {p : α → Bool} {l : List α} {i : Nat} (h : i < l.length) (hno : (l.take i).any p = false) (hp : p l[i] = true) : idxOf p l = i := by
  unfold idxOf
  have : l.findIdx? p = some i := by
    rw [List.findIdx?_eq_some_iff_getElem]
    refine ⟨h, hp, fun j hj => ?_⟩
    have h2 := List.any_eq_false.1 hno l[j] (by rw [List.mem_take_iff_getElem]; exact ⟨j, by omega, rfl⟩)
    exact h2
  rw [this]

theorem idxOf_none {α : Type} {p : α → Bool} {l : List α} (hno : l.any p = false) : idxOf p l = -1 := by
  unfold idxOf
  have : l.findIdx? p = none := by
    rw [List.findIdx?_eq_none_iff]
    intro x hx
    have := List.any_eq_false.1 hno x hx
    simpa using this
  rw [this]

theorem s_idxInts (ns : List Int) (hl : ns.length ≤ maxL) (f : Nat) (caps : List DV) (p : Int → Bool) (hc : plainL caps = true) (hf : ∀ x ∈ ns, Pure Try.prog f ([.int .i64 x] ++ caps) (.bool (p x))) :
    Pure Try.prog 106 [.fz 1 (intRows ns), .fn f [] caps] (.int .i64 (idxOf p ns)) := by
  have hl2 : ns.length ≤ 281474976710656 := hl
  refine Spec.walk ok106 fun C Q hP hN hQ => ?_
  unfold c106
  simp only [EV, EX, hP, reduceIte, Nat.reduceEqDiff, Nat.reduceAdd, Nat.reduceSub, binA, IN, len_fz ty94, intRows_length]
  refine LoopW.by (fun i => ⟨[(8, some (.int .i64 (i : Nat))), (7, some (.int .i64 ns.length)), (0, some (.fz 1 (intRows ns))), (1, some (.fn f [] caps))], [], 0⟩) (fun i => i ≤ ns.length ∧ (ns.take i).any p = false) (fun i => ns.length - i) 0 ⟨Nat.zero_le _, rfl⟩ ?_ ?_
  · refine Sub.pl 0 hN (Nat.zero_le _) (Nat.zero_le _) ?_
    simp only [plT, EV, EX, hP, reduceIte, Nat.reduceEqDiff, Nat.reduceAdd, Nat.reduceSub, plain, intRows_plain, and_true, plainL, hc, Bool.and_self, true_and]
    rfl
  · rintro i ⟨hi, hno⟩ N hN'
    simp only [EV, EX, hP, reduceIte, Nat.reduceEqDiff, Nat.reduceAdd, Nat.reduceSub, binA, IN]
    refine condS_d (fun h => ?_) (fun h => ?_)
    · have hi2 : i < ns.length := by omega
      have hb : (0 : Int) ≤ i ∧ (i : Int) < ns.length := by omega
      simp only [EV, EX, hP, reduceIte, Nat.reduceEqDiff, Nat.reduceAdd, Nat.reduceSub, binA, IN, MX, buildA, fillA, faddrA, load_ptr, load_fp, rowOf_eq, packA, TK.isAgg, cellsOf, cellD, boxA, allocA, storeA, putCells, Nat.reduceLeDiff, extA, iaddr_fz, elSize_eq ty94 ty3, intRows_length, hb, intRows_getD hi2, ty3]
      refine callW_clo hP (hf _ (List.getElem_mem hi2)) (by simp [plainL, plain, hc]) rfl ?_
      simp only [EV, EX, hP, reduceIte, Nat.reduceEqDiff, Nat.reduceAdd, Nat.reduceSub, binA, IN]
      refine condS_i (fun h9 => ?_) (fun h9 => ?_)
      · simp only [EV, EX, hP, reduceIte, Nat.reduceEqDiff, Nat.reduceAdd, Nat.reduceSub, binA, IN]
        refine hQ _ <| retQ_pure _ rfl rfl ⟨?_, rfl⟩
        simp only [retV, idxOf_append_none hi2 hno h9]
      · simp only [EV, EX, hP, reduceIte, Nat.reduceEqDiff, Nat.reduceAdd, Nat.reduceSub, binA, IN]
        refine hN' _ (i + 1) ⟨hi2, ?_⟩ (by omega) (Sub.pl 0 hN (Nat.zero_le _) (Nat.zero_le _) ?_)
        · rw [List.take_succ_eq_append_getElem hi2, List.any_append, hno]; simpa using h9
        · simp only [plT, EV, EX, hP, reduceIte, Nat.reduceEqDiff, Nat.reduceAdd, Nat.reduceSub, plain, intRows_plain, and_true, plainL, hc, Bool.and_self, true_and]
          rw [wrap_i64 (by omega) (by omega)]; rfl
    · have hi2 : i = ns.length := by omega
      subst hi2
      simp only [EV, EX, hP, reduceIte, Nat.reduceEqDiff, Nat.reduceAdd, Nat.reduceSub, binA, IN]
      refine hQ _ <| retQ_pure _ rfl rfl ⟨?_, rfl⟩
      rw [List.take_length] at hno
      simp only [retV, idxOf_none hno]
end Go.Fv
/- CONTRACTS: slices.IndexFunc, slices.ContainsFunc of instructions. -/
namespace Go.Fv
open Go.Proofs

theorem s_idxInsts (ns : List Inst) (hl : ns.length ≤ maxL) (f : Nat) (caps : List DV) (p : Inst → Bool) (hc : plainL caps = true) (hf : ∀ x ∈ ns, Pure Try.prog f ([.agg x.row] ++ caps) (.bool (p x))) :
    Pure Try.prog 88 [.fz 4 (instRows ns), .fn f [] caps] (.int .i64 (idxOf p ns)) := by
  have hl2 : ns.length ≤ 281474976710656 := hl
  refine Spec.walk ok88 fun C Q hP hN hQ => ?_
  unfold c88
  simp only [EV, EX, hP, reduceIte, Nat.reduceEqDiff, Nat.reduceAdd, Nat.reduceSub, binA, IN, len_fz ty34, instRows_length]
  refine LoopW.by (fun i => ⟨[(8, some (.int .i64 (i : Nat))), (7, some (.int .i64 ns.length)), (0, some (.fz 4 (instRows ns))), (1, some (.fn f [] caps))], [], 0⟩) (fun i => i ≤ ns.length ∧ (ns.take i).any p = false) (fun i => ns.length - i) 0 ⟨Nat.zero_le _, rfl⟩ ?_ ?_
  · refine Sub.pl 0 hN (Nat.zero_le _) (Nat.zero_le _) ?_
    simp only [plT, EV, EX, hP, reduceIte, Nat.reduceEqDiff, Nat.reduceAdd, Nat.reduceSub, plain, instRows_plain, and_true, plainL, hc, Bool.and_self, true_and]
    rfl
  · rintro i ⟨hi, hno⟩ N hN'
    simp only [EV, EX, hP, reduceIte, Nat.reduceEqDiff, Nat.reduceAdd, Nat.reduceSub, binA, IN]
    refine condS_d (fun h => ?_) (fun h => ?_)
    · have hi2 : i < ns.length := by omega
      have hb : (0 : Int) ≤ i ∧ (i : Int) < ns.length := by omega
      simp only [EV, EX, hP, reduceIte, Nat.reduceEqDiff, Nat.reduceAdd, Nat.reduceSub, binA, IN, MX, buildA, fillA, faddrA, load_ptr, load_fp, rowOf_eq, packA, TK.isAgg, cellsOf, cellD, boxA, allocA, storeA, putCells, Nat.reduceLeDiff, extA, iaddr_fz, elSize_eq ty34 ty60, instRows_length, hb, instRows_getD hi2, Inst.row, ty60]
      refine callW_clo hP (hf _ (List.getElem_mem hi2)) (by simp [plainL, plain, hc]) rfl ?_
      simp only [EV, EX, hP, reduceIte, Nat.reduceEqDiff, Nat.reduceAdd, Nat.reduceSub, binA, IN]
      refine condS_i (fun h9 => ?_) (fun h9 => ?_)
      · simp only [EV, EX, hP, reduceIte, Nat.reduceEqDiff, Nat.reduceAdd, Nat.reduceSub, binA, IN]
        refine hQ _ <| retQ_pure _ rfl rfl ⟨?_, rfl⟩
        simp only [retV, idxOf_append_none hi2 hno h9]
      · simp only [EV, EX, hP, reduceIte, Nat.reduceEqDiff, Nat.reduceAdd, Nat.reduceSub, binA, IN]
        refine hN' _ (i + 1) ⟨hi2, ?_⟩ (by omega) (Sub.pl 0 hN (Nat.zero_le _) (Nat.zero_le _) ?_)
        · rw [List.take_succ_eq_append_getElem hi2, List.any_append, hno]; simpa using h9
        · simp only [plT, EV, EX, hP, reduceIte, Nat.reduceEqDiff, Nat.reduceAdd, Nat.reduceSub, plain, instRows_plain, and_true, plainL, hc, Bool.and_self, true_and]
          rw [wrap_i64 (by omega) (by omega)]; rfl
    · have hi2 : i = ns.length := by omega
      subst hi2
      simp only [EV, EX, hP, reduceIte, Nat.reduceEqDiff, Nat.reduceAdd, Nat.reduceSub, binA, IN]
      refine hQ _ <| retQ_pure _ rfl rfl ⟨?_, rfl⟩
      rw [List.take_length] at hno
      simp only [retV, idxOf_none hno]
end Go.Fv
/- CONTRACTS: slices.ContainsFunc. -/
namespace Go.Fv
open Go.Proofs

theorem idxOf_any {α : Type} {p : α → Bool} {l : List α} : decide (0 ≤ idxOf p l) = l.any p := by
  unfold idxOf
  cases h : l.findIdx? p with
  | none =>
    rw [List.findIdx?_eq_none_iff] at h
    have : l.any p = false := List.any_eq_false.2 fun x hx => by simpa using h x hx
    rw [this]; rfl
  | some i =>
    rw [List.findIdx?_eq_some_iff_getElem] at h
    obtain ⟨h1, h2, _⟩ := h
    have : l.any p = true := List.any_eq_true.2 ⟨l[i], List.getElem_mem h1, h2⟩
    rw [this]; simp

theorem s_hasInts (ns : List Int) (hl : ns.length ≤ maxL) (f : Nat) (caps : List DV) (p : Int → Bool) (hc : plainL caps = true) (hf : ∀ x ∈ ns, Pure Try.prog f ([.int .i64 x] ++ caps) (.bool (p x))) :
    Pure Try.prog 92 [.fz 1 (intRows ns), .fn f [] caps] (.bool (ns.any p)) := by
  refine Spec.walk ok92 fun C Q hP hN hQ => ?_
  unfold c92
  simp only [EV, EX, hP, reduceIte, Nat.reduceEqDiff, Nat.reduceAdd, Nat.reduceSub, binA, IN]
  refine callW_pure hP (s_idxInts ns hl f caps p hc hf) (by simp [plainL, plain, intRows_plain, hc]) rfl ?_
  simp only [EV, EX, hP, reduceIte, Nat.reduceEqDiff, Nat.reduceAdd, Nat.reduceSub, binA, IN]
  refine hQ _ <| retQ_pure _ rfl rfl ⟨?_, rfl⟩
  simp only [retV, idxOf_any]

theorem s_hasInsts (ns : List Inst) (hl : ns.length ≤ maxL) (f : Nat) (caps : List DV) (p : Inst → Bool) (hc : plainL caps = true) (hf : ∀ x ∈ ns, Pure Try.prog f ([.agg x.row] ++ caps) (.bool (p x))) :
    Pure Try.prog 78 [.fz 4 (instRows ns), .fn f [] caps] (.bool (ns.any p)) := by
  refine Spec.walk ok78 fun C Q hP hN hQ => ?_
  unfold c78
  simp only [EV, EX, hP, reduceIte, Nat.reduceEqDiff, Nat.reduceAdd, Nat.reduceSub, binA, IN]
  refine callW_pure hP (s_idxInsts ns hl f caps p hc hf) (by simp [plainL, plain, instRows_plain, hc]) rfl ?_
  simp only [EV, EX, hP, reduceIte, Nat.reduceEqDiff, Nat.reduceAdd, Nat.reduceSub, binA, IN]
  refine hQ _ <| retQ_pure _ rfl rfl ⟨?_, rfl⟩
  simp only [retV, idxOf_any]
end Go.Fv
/- CONTRACTS: shape.ins. -/
namespace Go.Fv
open Go.Proofs

/-- Which of the first n pieces have the instruction i (and the one behind them, if x). -/
def inCell (ps : List Area) (n : Nat) (x : Bool) (i m : Nat) : Bool := if m < n ∨ (m = n ∧ x = true) then ((ps[m]?).map fun p => p.has i).getD false else false
def inRow (ps : List Area) (n : Nat) (x : Bool) (i : Nat) : List DV := (List.range 24).map fun m => .bool (inCell ps n x i m)
def inRows (ps : List Area) (len n j : Nat) : List (List DV) := (List.range len).map fun i => inRow ps n (decide (i < j)) i

theorem inRows_length {ps : List Area} {len n j : Nat} : (inRows ps len n j).length = len := by simp [inRows]
theorem inRow_plain {ps : List Area} {n : Nat} {x : Bool} {i : Nat} : plainL (inRow ps n x i) = true := plainL_map fun _ => rfl
theorem inRows_plain {ps : List Area} {len n j : Nat} : plainR (inRows ps len n j) = true := plainR_map fun _ => inRow_plain
theorem inRows_get {ps : List Area} {len n j i : Nat} (h : i < len) : (inRows ps len n j)[i]? = some (inRow ps n (decide (i < j)) i) := by simp [inRows, h]
theorem inRows_start {ps : List Area} {len : Nat} : List.replicate len (List.replicate 24 (DV.bool false)) = inRows ps len 0 0 := by
  symm
  rw [List.eq_replicate_iff]
  refine ⟨inRows_length, fun r hr => ?_⟩
  obtain ⟨i, _, rfl⟩ := List.mem_map.1 hr
  rw [inRow, List.eq_replicate_iff]
  refine ⟨by simp, fun d hd => ?_⟩
  obtain ⟨m, _, rfl⟩ := List.mem_map.1 hd
  simp [inCell]
theorem inRows_next {ps : List Area} {len n : Nat} : inRows ps len n len = inRows ps len (n + 1) 0 := by
  apply List.map_congr_left
  intro i hi
  have hi := List.mem_range.1 hi
  apply List.map_congr_left
  intro m _
  simp only [inCell, hi, decide_true, Nat.not_lt_zero, decide_false]
  congr 1
  by_cases h : m < n
  · rw [if_pos (Or.inl h), if_pos (Or.inl (by omega))]
  · by_cases h2 : m = n
    · rw [if_pos (Or.inr ⟨h2, trivial⟩), if_pos (Or.inl (by omega))]
    · rw [if_neg (by omega), if_neg (by simp; omega)]

theorem inRows_set {ps : List Area} {len n j : Nat} : (inRows ps len n j).set j (inRow ps n true j) = inRows ps len n (j + 1) := by
  apply List.ext_getElem (by simp [inRows])
  intro k h1 h2
  simp only [inRows, List.getElem_set, List.getElem_map, List.getElem_range]
  by_cases e : j = k
  · subst e; simp
  · rw [if_neg e]
    congr 1
    rw [decide_eq_decide]
    omega

theorem inRow_same {ps : List Area} {n j : Nat} (h : n < 24 → (((ps[n]?).map fun p => p.has j).getD false) = false) : inRow ps n true j = inRow ps n false j := by
  apply List.map_congr_left
  intro m hm
  have hm := List.mem_range.1 hm
  simp only [inCell]
  by_cases e : m = n
  · subst e
    rw [h hm]; simp
  · congr 1
    simp [e]

theorem inRows_skip {ps : List Area} {len n j : Nat} (hj : j < len) (h : n < 24 → (((ps[n]?).map fun p => p.has j).getD false) = false) : inRows ps len n (j + 1) = inRows ps len n j := by
  rw [← inRows_set, inRow_same h]
  apply List.ext_getElem (by simp [inRows])
  intro k h1 h2
  simp only [inRows, List.getElem_set, List.getElem_map, List.getElem_range]
  by_cases e : j = k
  · subst e; simp
  · rw [if_neg e]

theorem inRow_put {ps : List Area} {n j : Nat} (hn : n < 24) (h : (((ps[n]?).map fun p => p.has j).getD false) = true) : (inRow ps n false j).set n (.bool true) = inRow ps n true j := by
  apply List.ext_getElem (by simp [inRow])
  intro k h1 h2
  simp only [inRow, List.getElem_set, List.getElem_map, List.getElem_range]
  by_cases e : n = k
  · subst e; simp [inCell, h]
  · rw [if_neg e]
    simp only [inCell]
    have : ¬ k = n := fun x => e x.symm
    simp [this]

theorem areaRows_length (l : List Area) : (areaRows l).length = l.length := by simp [areaRows]
theorem areaRows_getD {l : List Area} {i : Nat} (h : i < l.length) : (areaRows l).getD i [] = l[i].row := getD_map _ _ _ _ h

def insOf (l : List Inst) : List (List DV) := inRows (areasOf l) l.length (areasOf l).length 0

set_option maxRecDepth 100000 in
theorem s_ins (l : List Inst) (hl : l.length ≤ 24) (hx : ∀ x ∈ l, x.may = true) : Pure Try.prog 91 [.fz 4 (instRows l)] (.fz 24 (insOf l)) := by
  have hps := Nat.le_trans (areasOf_length l) hl
  have hpl := s_pieces l hl hx
  unfold insOf
  generalize areasOf l = ps at *
  refine Spec.walk ok91 fun C Q hP hN hQ => ?_
  unfold c91
  have hc : (0 : Int) ≤ l.length ∧ (l.length : Int) * ((24 : Nat) : Int) ≤ 281474976710656 := by omega
  have hlow : ∀ n : Nat, C.N0 n → n < 49 := fun n hn => absurd (hN n hn) (by omega)
  simp only [EV, EX, hP, reduceIte, Nat.reduceEqDiff, Nat.reduceAdd, Nat.reduceSub, binA, IN, len_fz ty34, len_sl ty119, instRows_length, mkslA, elTI_eq ty119, ty122, true_and, and_self, hc, Int.toNat_natCast, cellsOf]
  refine callW_pure hP hpl (by simp [plainL, plain, instRows_plain]) (by simp [plain, areaRows_plain]) ?_
  simp only [EV, EX, hP, reduceIte, Nat.reduceEqDiff, Nat.reduceAdd, Nat.reduceSub, binA, IN, len_fz ty132, areaRows_length]
  refine LoopW.by (fun n => ⟨[(13, some (.int .i64 (n : Nat))), (12, some (.int .i64 ps.length)), (11, some (.fz 4 (areaRows ps))), (3, some (.sl 24 48 0 l.length)), (0, some (.fz 4 (instRows l)))], [(48, some (.rows 24 (inRows ps l.length n 0)))], 64⟩) (fun n => n ≤ ps.length) (fun n => ps.length - n) 0 (Nat.zero_le _) ?_ ?_
  · refine Sub.keep 49 hlow (Nat.le_of_ble_eq_true rfl) (Nat.le_of_ble_eq_true rfl) ?_ ?_
    · simp only [kpT, EV, EX, hP, reduceIte, Nat.reduceEqDiff, Nat.reduceAdd, Nat.reduceSub, low, instRows_plain, areaRows_plain, and_self, and_true, true_and, Nat.reduceLT, decide_true]
      rfl
    · simp only [kpH, blk_mk, EV, EX, hP, reduceIte, Nat.reduceEqDiff, Nat.reduceAdd, Nat.reduceSub, lowB, lowR_of_plain _ inRows_plain, and_self, and_true, true_and, Nat.reduceLT]
      rw [← inRows_start]; rfl
  · intro n hn N hN'
    simp only [EV, EX, hP, reduceIte, Nat.reduceEqDiff, Nat.reduceAdd, Nat.reduceSub, binA, IN]
    refine condS_d (fun h => ?_) (fun h => ?_)
    · have hn2 : n < ps.length := by omega
      have hb : (0 : Int) ≤ n ∧ (n : Int) < ps.length := by omega
      simp only [EV, EX, hP, reduceIte, Nat.reduceEqDiff, Nat.reduceAdd, Nat.reduceSub, binA, IN, MX, buildA, fillA, faddrA, load_ptr, load_fp, rowOf_eq, packA, TK.isAgg, cellsOf, cellD, boxA, allocA, storeA, putCells, Nat.reduceLeDiff, extA, iaddr_fz, elSize_eq ty132 ty135, areaRows_length, hb, areaRows_getD hn2, Area.row, ty135, ty3, len_fz ty34, instRows_length]
      have hlow2 : ∀ n : Nat, C.N0 n → n < 129 := fun n hn => absurd (hN n hn) (by omega)
      refine LoopW.by (fun j => ⟨[(20, some (.int .i64 (j : Nat))), (19, some (.int .i64 l.length)), (4, some (.int .i64 n)), (5, some (.ptr 128 0 0)), (13, some (.int .i64 n)), (12, some (.int .i64 ps.length)), (11, some (.fz 4 (areaRows ps))), (3, some (.sl 24 48 0 l.length)), (0, some (.fz 4 (instRows l)))],
        [(48, some (.rows 24 (inRows ps l.length n j))), (128, some (.rows 4 [ps[n].row]))], 144⟩) (fun j => j ≤ l.length) (fun j => l.length - j) 0 (Nat.zero_le _) ?_ ?_
      · refine Sub.keep 129 hlow2 (Nat.le_of_ble_eq_true rfl) (Nat.le_of_ble_eq_true rfl) ?_ ?_
        · simp only [kpT, EV, EX, hP, reduceIte, Nat.reduceEqDiff, Nat.reduceAdd, Nat.reduceSub, low, instRows_plain, areaRows_plain, and_self, and_true, true_and, Nat.reduceLT, decide_true]
          rfl
        · simp only [kpH, blk_mk, EV, EX, hP, reduceIte, Nat.reduceEqDiff, Nat.reduceAdd, Nat.reduceSub, lowB, lowR_of_plain _ inRows_plain, and_self, and_true, true_and, Nat.reduceLT, Area.row, lowR, lowL, low, Bool.and_self]
      · intro j hj N2 hN2
        have hget : (ps[n]?).map (fun p => p.has j) = some (ps[n].has j) := by simp [hn2]
        simp only [EV, EX, hP, reduceIte, Nat.reduceEqDiff, Nat.reduceAdd, Nat.reduceSub, binA, IN]
        refine condS_d (fun h4 => ?_) (fun h4 => ?_)
        · have hj2 : j < l.length := by omega
          have hn24 : ((n : Int) < 24) = True := by simp; omega
          have hb2 : (0 : Int) ≤ j ∧ (j : Int) < l.length := by omega
          have hb3 : (0 : Int) ≤ n ∧ (n : Int) < ((24 : Nat) : Int) := by omega
          simp only [EV, EX, hP, reduceIte, Nat.reduceEqDiff, Nat.reduceAdd, Nat.reduceSub, binA, IN, MX, buildA, fillA, faddrA, load_ptr, load_fp, rowOf_eq, packA, TK.isAgg, cellsOf, cellD, boxA, allocA, storeA, putCells, Nat.reduceLeDiff, extA, hn24, decide_true, ty135, ty3, Area.row]
          refine callW_pure hP (s_piece_has ps[n] j) rfl rfl ?_
          simp only [EV, EX, hP, reduceIte, Nat.reduceEqDiff, Nat.reduceAdd, Nat.reduceSub, binA, IN, pickA]
          refine condS_i (fun h5 => ?_) (fun h5 => ?_)
          · have hput := inRow_put (ps := ps) (n := n) (j := j) (by omega) (by rw [hget]; exact h5)
            have hn23 : n ≤ 23 := by omega
            simp only [EV, EX, hP, reduceIte, Nat.reduceEqDiff, Nat.reduceAdd, Nat.reduceSub, binA, IN, MX, buildA, fillA, faddrA, load_ptr, load_fp, rowOf_eq, packA, TK.isAgg, cellsOf, cellD, boxA, allocA, storeA, putCells, Nat.reduceLeDiff, extA, iaddr_sl, elSize_eq ty119 ty122, hb2, iaddrA, ty122, ty4, hb3, inRows_get hj2, Nat.lt_irrefl, decide_false, Nat.mul_one, hn23, true_and, and_true, hput, inRows_set]
            refine hN2 _ (j + 1) hj2 (by omega) (Sub.keep 129 hlow2 (Nat.le_of_ble_eq_true rfl) (Nat.le_of_ble_eq_true rfl) ?_ ?_)
            · simp only [kpT, EV, EX, hP, reduceIte, Nat.reduceEqDiff, Nat.reduceAdd, Nat.reduceSub, low, instRows_plain, areaRows_plain, and_self, and_true, true_and, Nat.reduceLT, decide_true]
              rw [wrap_i64 (by omega) (by omega)]; rfl
            · simp only [kpH, blk_mk, EV, EX, hP, reduceIte, Nat.reduceEqDiff, Nat.reduceAdd, Nat.reduceSub, lowB, lowR_of_plain _ inRows_plain, and_self, and_true, true_and, Nat.reduceLT, Area.row, lowR, lowL, low, Bool.and_self]
          · simp only [EV, EX, hP, reduceIte, Nat.reduceEqDiff, Nat.reduceAdd, Nat.reduceSub, binA, IN]
            refine hN2 _ (j + 1) hj2 (by omega) (Sub.keep 129 hlow2 (Nat.le_of_ble_eq_true rfl) (Nat.le_of_ble_eq_true rfl) ?_ ?_)
            · simp only [kpT, EV, EX, hP, reduceIte, Nat.reduceEqDiff, Nat.reduceAdd, Nat.reduceSub, low, instRows_plain, areaRows_plain, and_self, and_true, true_and, Nat.reduceLT, decide_true]
              rw [wrap_i64 (by omega) (by omega)]; rfl
            · have e := inRows_skip (ps := ps) (len := l.length) (n := n) hj2 (fun _ => by rw [hget]; exact h5)
              simp only [kpH, blk_mk, EV, EX, hP, reduceIte, Nat.reduceEqDiff, Nat.reduceAdd, Nat.reduceSub, lowB, lowR_of_plain _ inRows_plain, and_self, and_true, true_and, Nat.reduceLT, Area.row, lowR, lowL, low, Bool.and_self, e]
        · have hj2 : j = l.length := by omega
          subst hj2
          simp only [EV, EX, hP, reduceIte, Nat.reduceEqDiff, Nat.reduceAdd, Nat.reduceSub, binA, IN]
          refine hN' _ (n + 1) hn2 (by omega) (Sub.keep 49 hlow (Nat.le_of_ble_eq_true rfl) (Nat.le_of_ble_eq_true rfl) ?_ ?_)
          · simp only [kpT, EV, EX, hP, reduceIte, Nat.reduceEqDiff, Nat.reduceAdd, Nat.reduceSub, low, instRows_plain, areaRows_plain, and_self, and_true, true_and, Nat.reduceLT, decide_true]
            rw [wrap_i64 (by omega) (by omega)]; rfl
          · simp only [kpH, blk_mk, EV, EX, hP, reduceIte, Nat.reduceEqDiff, Nat.reduceAdd, Nat.reduceSub, lowB, lowR_of_plain _ inRows_plain, and_self, and_true, true_and, Nat.reduceLT, inRows_next]
    · have hn2 : n = ps.length := by omega
      subst hn2
      simp only [EV, EX, hP, reduceIte, Nat.reduceEqDiff, Nat.reduceAdd, Nat.reduceSub, binA, IN]
      refine hQ _ ⟨⟨0, [], [], [48]⟩, [.sl 24 48 0 l.length], [.fz 24 (inRows ps l.length ps.length 0)], [], rfl, Nat.le_refl _, rfl, .cons _ _ _ _ (Tl.freeze (rs := inRows ps l.length ps.length 0) (by simp) rfl (by simp [inRows]) ?_ inRows_plain ?_) .nil, trivial, rfl, rfl⟩
      · rw [List.drop_zero, List.take_of_length_le (by simp [inRows])]
      · intro r hr; obtain ⟨x, _, rfl⟩ := List.mem_map.1 hr; simp [inRow]
end Go.Fv
/- ABSTRACT VALUES AND STATES (32): calls that look at own blocks and leave them: contracts told over frozen values. -/
namespace Go.Fv

mutual
/-- Numbers and truths alone. -/
def scal : DV → Bool
  | .int _ _ | .bool _ | .nilp | .nilsl | .nilmp | .nilfn => true
  | .agg cs => scalL cs
  | .tup cs => scalL cs
  | _ => false
def scalL : List DV → Bool
  | [] => true
  | d :: ds => scal d && scalL ds
end

theorem scalL_at : ∀ {ds : List DV}, scalL ds = true → ∀ d ∈ ds, scal d = true
  | [], _ => by simp
  | d :: ds, h => by
    simp only [scalL, Bool.and_eq_true] at h
    intro x hx
    rcases List.mem_cons.1 hx with e | hx
    · rw [e]; exact h.1
    · exact scalL_at h.2 x hx

theorem scal_rep {w w' : World} {F F' : Nat → Prop} {ρ ρ' : Nat → Place} {N N' : Nat → Prop} {d : DV} {v : Value} (hv : RepV w F ρ N d v) (h : scal d = true) : RepV w' F' ρ' N' d v := by
  induction hv with
  | int k n => exact .int k n
  | bool b => exact .bool b
  | nilp => exact .nilp
  | nilsl => exact .nilsl
  | nilmp => exact .nilmp
  | nilfn => exact .nilfn
  | agg cs vs hl _ ih => simp only [scal] at h; exact .agg cs vs hl fun i d v h1 h2 => ih i d v h1 h2 (scalL_at h d (List.mem_of_getElem? h1))
  | tup cs vs hl _ ih => simp only [scal] at h; exact .tup cs vs hl fun i d v h1 h2 => ih i d v h1 h2 (scalL_at h d (List.mem_of_getElem? h1))
  | _ => simp [scal] at h

theorem HOk.lt_heap {w : World} {F : Nat → Prop} {ρ : Nat → Place} {N : Nat → Prop} {h : Nat → Option Blk} (H : HOk w F ρ N h) {m : Nat} {B : Blk} (hm : h m = some B) (hv : (ρ m).vir = false) : (ρ m).blk < w.heap.size := by
  have h1 := (H.ok m B hm).2
  cases B with
  | rows k rs =>
    obtain ⟨_, _, ⟨hv', _⟩ | ⟨_, cs, ty, hb, _⟩⟩ := h1
    · rw [hv] at hv'; cases hv'
    · exact lt_of_block hb
  | map es => obtain ⟨_, en, ck, hb, _⟩ := h1; exact lt_of_block hb

theorem callR_look {P : Program} {f : FuncId} {az' az first caps : List DV} {D : DV → List (Nat × Option Blk) → Prop} (hs : Spec P f az' 0 [] D) (hsc : ∀ d U, D d U → scal d = true) (Z : List Nat) {h : Nat → Option Blk} {nb : Nat}
    (hT : TlL ⟨0, [], [], Z⟩ h (first ++ az ++ caps) az') : CallR P (.fn f first caps) az h nb fun d U => U = [] ∧ ∃ U', D d U' := by
  intro w F ρ N HH hfr fv vs hf hl ha
  obtain ⟨fs, cs, rfl, hf1, hf2, hf3, hf4⟩ := hf.fn_inv
  refine .inl ⟨f, fs ++ vs ++ cs, run_enter hs.1 fs vs cs w, ?_⟩
  have hall : ∀ (i : Nat) (a : DV) (v : Value), (first ++ az ++ caps)[i]? = some a → (fs ++ vs ++ cs)[i]? = some v → RepV w F ρ N a v := by
    intro i a v h1 h2
    rw [List.getElem?_append, List.getElem?_append] at h1
    rw [Array.getElem?_append, Array.getElem?_append] at h2
    simp only [List.length_append, Array.size_append] at h1 h2
    rw [hf1, hl] at h1
    split at h1
    · rename_i h3
      rw [if_pos h3] at h2
      split at h1
      · rename_i h4; rw [if_pos h4] at h2; exact hf3 i a v h1 h2
      · rename_i h4; rw [if_neg h4] at h2; exact ha _ a v h1 h2
    · rename_i h3
      rw [if_neg h3] at h2
      exact hf4 _ a v h1 h2
  have H1 : HOk w (fun a => F a ∨ ∃ b B, b ∈ Z ∧ h b = some B ∧ (ρ b).vir = false ∧ (ρ b).blk = a) ρ (· < 0) (lkO ([] : List (Nat × Option Blk))) := by
    refine ⟨fun n B hn => (by cases hn), fun n m B C hn => (by cases hn), fun a ha => ⟨?_, fun n B hn => (by cases hn)⟩⟩
    rcases ha with ha | ⟨b, B, _, h2, h3, rfl⟩
    · exact (HH.fr a ha).1
    · exact HH.lt_heap h2 h3
  obtain ⟨hTl, hTa⟩ := hT.at
  refine (hs.2 w _ ρ H1 (fs ++ vs ++ cs) ?_ ?_).mono ?_
  · rw [← hTl]; simp only [List.length_append, Array.size_append, hf1, hf2, hl]
  · intro i a v h1 h2
    obtain ⟨x, hx⟩ := other hTl h1
    refine (hTa i x a hx h1).rep' HH (fun n m hnm _ => ?_) (fun c k hck => ?_) (fun a ha => .inl ha) (fun b B hb hB hv => .inr ⟨b, B, hb, hB, hv, rfl⟩) (hall i x v hx h2)
    · simp [Nm.new, lkN] at hnm
    · simp [lkN] at hck
  · rintro e w' ⟨v, rfl, d, U, F', ρ', hDd, T, hv⟩
    have hh : ∀ b, b < w.heap.size → w'.heap[b]? = w.heap[b]? := fun b hb => T.same b hb (by rintro ⟨n, B, hn, _⟩; cases hn)
    have hFs : ∀ a, F a → F a ∧ w'.heap[a]? = w.heap[a]? := fun a ha => ⟨ha, hh a (HH.fr a ha).1⟩
    have hNs : ∀ n, N n → Nr N nb n ∧ ρ n = ρ n := fun n hn => ⟨.inl hn, rfl⟩
    refine ⟨v, rfl, d, [], F, ρ, ⟨rfl, U, hDd⟩, ?_, scal_rep hv (hsc d U hDd)⟩
    refine ⟨⟨fun n B hn => ?_, fun n m B C hn hm => HH.inj n m B C hn hm, fun a ha => ⟨Nat.lt_of_lt_of_le (HH.fr a ha).1 T.ev.size, (HH.fr a ha).2⟩⟩, T.ev, fun b hb _ => hh b hb, hNs, fun b hb => .inr hb, fun a ha => ha, fun a ha => .inl ha, T.os, T.tape, T.out⟩
    have h1 := HH.ok n B hn
    exact ⟨.inl h1.1, h1.2.mono T.ev hFs hNs h1.1 fun hv => hh _ (HH.lt_heap hn hv)⟩

theorem callW_look {C : Ctx} {P : Program} {f : FuncId} {az' az caps : List DV} {D : DV → List (Nat × Option Blk) → Prop} {S : St} {k : DV → St → Prop} (hP : C.P = P) (hs : Spec P f az' 0 [] D) (hsc : ∀ d U, D d U → scal d = true) (Z : List Nat)
    (hT : TlL ⟨0, [], [], Z⟩ S.blk (az ++ caps) az') (hk : ∀ d U, D d U → k d ⟨S.T, S.H, S.nx + 16⟩) : callW C (some (.fn f [] caps)) (some az) S k := by
  subst hP
  refine callW_of (callR_look hs hsc Z (by simpa using hT)) ?_
  rintro d' U ⟨rfl, U', hD⟩
  exact hk d' U' hD

/-- An own slice's rows, frozen (all of a block's rows). -/
theorem Tl.frzAll {M : Nm} {h : Nat → Option Blk} {k b n : Nat} {rows : List (List DV)} (hZ : b ∈ M.Z) (hb : h b = some (.rows k rows)) (hn : n = rows.length) (hp : plainR rows = true) (hk : ∀ r ∈ rows, r.length = k) :
    Tl M h (.sl k b 0 n) (.fz k rows) := by
  subst hn
  exact .freeze hZ hb (by omega) (by simp) hp hk

/-- A cell that is told, frozen. -/
theorem Tl.cell {M : Nm} {h : Nat → Option Blk} {k b : Nat} {row : List DV} (hZ : b ∈ M.Z) (hb : h b = some (.rows k [row])) (hp : plainL row = true) : Tl M h (.ptr b 0 0) (.fp row) := by
  refine .frp k b 0 0 [row] row row hZ hb rfl (by simp) fun i x y hx hy => ?_
  simp only [List.drop_zero] at hx
  rw [hx] at hy; cases hy
  exact .same x (plainL_all.1 hp x (List.mem_of_getElem? hx))
end Go.Fv
/- CONTRACTS: shape.nested. -/
namespace Go.Fv
open Go.Proofs

def cntB (ps : List Area) (i : Nat) : Int := (ps.filter fun p => p.body && p.has i).length
def pairBad (p q : Area) : Bool := (q.has p.o && !p.within q) || (!p.apart q && !p.within q && !q.within p)
def nestOk (l : List Inst) : Bool :=
  (areasOf l).all (fun p => decide (p.q < (l.length : Int) - 1) && (areasOf l).all fun q => !pairBad p q) && (List.range l.length).all fun i => decide (cntB (areasOf l) i ≤ 2)

theorem areasOf_mem {l : List Inst} (hx : ∀ x ∈ l, x.may = true) {p : Area} (hp : p ∈ areasOf l) : ∃ i : Nat, i < l.length ∧ p.o = i ∧ p.p = i + 1 ∧ p.p ≤ p.q ∧ p.q ≤ i + 24 := by
  unfold areasOf at hp
  obtain ⟨⟨x, i⟩, h1, h2⟩ := List.mem_flatMap.1 hp
  have h3 := List.mem_zipIdx h1
  have hi : i < l.length := by omega
  have hxi : x = l[i] := by simpa using h3.2.2
  have hm := hx l[i] (List.getElem_mem hi)
  rw [← hxi] at hm
  simp only [areaAt] at h2
  split at h2
  · rename_i h7
    simp only [List.mem_singleton] at h2
    subst h2
    have hn : 1 ≤ x.n ∧ x.n ≤ 24 := by simp [Inst.may, h7, btw] at hm; omega
    exact ⟨i, hi, rfl, rfl, by simp only; omega, by simp only; omega⟩
  · split at h2
    · rename_i h8
      simp only [List.mem_singleton] at h2
      subst h2
      have hn : 1 ≤ x.b ∧ x.b ≤ 24 := by simp [Inst.may, h8, btw] at hm; omega
      exact ⟨i, hi, rfl, rfl, by simp only; omega, by simp only; omega⟩
    · cases h2

theorem cntB_take {ps : List Area} {k : Nat} (h : k < ps.length) (i : Nat) : cntB (ps.take (k + 1)) i = cntB (ps.take k) i + (if ps[k].body = true ∧ ps[k].has i = true then 1 else 0) := by
  unfold cntB
  rw [List.take_succ_eq_append_getElem h, List.filter_append, List.length_append]
  simp only [List.filter_cons, List.filter_nil]
  by_cases hb : ps[k].body = true ∧ ps[k].has i = true
  · rw [if_pos hb]; simp [hb.1, hb.2]
  · rw [if_neg hb, if_neg (by simpa using hb)]; simp

theorem cntB_bound (ps : List Area) (i : Nat) : 0 ≤ cntB ps i ∧ cntB ps i ≤ ps.length := by
  unfold cntB
  have := List.length_filter_le (fun p => p.body && Area.has p i) ps
  omega

def arIn (ps : List Area) (len k : Nat) (p : Int) (j : Nat) : List Int := (List.range len).map fun i => cntB (ps.take k) i + (if p ≤ i ∧ (i : Int) < p + j then 1 else 0)
theorem arIn_zero {ps : List Area} {len k : Nat} {p : Int} : arIn ps len k p 0 = (List.range len).map (cntB (ps.take k)) := by
  apply List.map_congr_left
  intro i _
  rw [if_neg (by omega)]; omega
theorem arIn_length {ps : List Area} {len k : Nat} {p : Int} {j : Nat} : (arIn ps len k p j).length = len := by simp [arIn]
theorem arIn_get {ps : List Area} {len k m : Nat} {p : Int} {j : Nat} (h : m < (arIn ps len k p j).length) (hm : (m : Int) = p + j) : (arIn ps len k p j)[m] = cntB (ps.take k) m := by
  simp [arIn]; omega
theorem arIn_set {ps : List Area} {len k m : Nat} {p : Int} {j : Nat} (hm : (m : Int) = p + j) (h0 : 0 ≤ p) : (arIn ps len k p j).set m (cntB (ps.take k) m + 1) = arIn ps len k p (j + 1) := by
  apply List.ext_getElem (by simp [arIn])
  intro i h1 h2
  simp only [arIn, List.getElem_set, List.getElem_map, List.getElem_range]
  by_cases e : m = i
  · subst e; simp only [if_true]; rw [if_pos (by omega)]
  · rw [if_neg e]
    by_cases h3 : p ≤ i ∧ (i : Int) < p + j
    · rw [if_pos h3, if_pos (by omega)]
    · rw [if_neg h3, if_neg (by omega)]

theorem all_take {α : Type} {l : List α} {p : α → Bool} {k : Nat} (h : k < l.length) (h1 : (l.take k).all p = true) (h2 : p l[k] = true) : (l.take (k + 1)).all p = true := by
  rw [List.take_succ_eq_append_getElem h, List.all_append, h1]; simp [h2]

theorem nest_bad {ps : List Area} {len : Int} {k j : Nat} (hk : k < ps.length) (hj : j < ps.length) (h : pairBad ps[k] ps[j] = true) :
    (ps.all fun p => decide (p.q < len - 1) && ps.all fun q => !pairBad p q) = false := by
  cases hh : (ps.all fun p => decide (p.q < len - 1) && ps.all fun q => !pairBad p q) with
  | false => rfl
  | true =>
    have h1 := List.all_eq_true.1 hh ps[k] (List.getElem_mem hk)
    rw [Bool.and_eq_true] at h1
    have h2 := List.all_eq_true.1 h1.2 ps[j] (List.getElem_mem hj)
    rw [h] at h2; cases h2

theorem s_nested1 (n : Int) : Pure Try.prog 105 [.int .i64 n] (.bool (decide (2 < n))) := by
  refine Spec.walk ok105 fun C Q hP hN hQ => ?_
  unfold c105
  simp only [EV, EX, hP, reduceIte, Nat.reduceEqDiff, Nat.reduceAdd, Nat.reduceSub, binA, IN]
  exact hQ _ <| retQ_pure _ rfl rfl ⟨rfl, rfl⟩

set_option maxRecDepth 100000 in
theorem s_nested (l : List Inst) (hl : l.length ≤ 24) (hx : ∀ x ∈ l, x.may = true) : Pure Try.prog 90 [.fz 4 (instRows l)] (.bool (nestOk l)) := by
  have hps := Nat.le_trans (areasOf_length l) hl
  have hpl := s_pieces l hl hx
  have hmem := fun p => areasOf_mem hx (p := p)
  unfold nestOk
  generalize areasOf l = ps at *
  refine Spec.walk ok90 fun C Q hP hN hQ => ?_
  unfold c90
  have hc : (0 : Int) ≤ l.length ∧ (l.length : Int) * ((8 : Nat) : Int) ≤ 281474976710656 := by omega
  have hlow : ∀ n : Nat, C.N0 n → n < 97 := fun n hn => absurd (hN n hn) (by omega)
  simp only [EV, EX, hP, reduceIte, Nat.reduceEqDiff, Nat.reduceAdd, Nat.reduceSub, binA, IN]
  refine callW_pure hP hpl (by simp [plainL, plain, instRows_plain]) (by simp [plain, areaRows_plain]) ?_
  simp only [EV, EX, hP, reduceIte, Nat.reduceEqDiff, Nat.reduceAdd, Nat.reduceSub, binA, IN, len_fz ty132, areaRows_length, len_fz ty34, instRows_length, mkslA, elTI_eq ty94, ty3, true_and, and_self, hc, Int.toNat_natCast, cellsOf, intRows_replicate]
  refine LoopW.by (fun k => ⟨[(17, some (.int .i64 (k : Nat))), (16, some (.int .i64 ps.length)), (15, some (.fz 4 (areaRows ps))), (4, some (.sl 1 96 0 l.length)), (3, some (.fz 4 (areaRows ps))), (0, some (.fz 4 (instRows l)))],
    [(96, some (.rows 1 (intRows ((List.range l.length).map (cntB (ps.take k))))))], 112⟩) (fun k => k ≤ ps.length ∧ (ps.take k).all (fun p => decide (p.q < (l.length : Int) - 1) && ps.all fun q => !pairBad p q) = true) (fun k => ps.length - k) 0 ⟨Nat.zero_le _, rfl⟩ ?_ ?_
  · refine Sub.keep 97 hlow (Nat.le_of_ble_eq_true rfl) (Nat.le_of_ble_eq_true rfl) ?_ ?_
    · simp only [kpT, low, and_self, and_true, true_and, Nat.reduceLT, decide_true, EV, EX, hP, reduceIte, Nat.reduceEqDiff, Nat.reduceAdd, Nat.reduceSub, instRows_plain, areaRows_plain]
      rfl
    · have e : (List.range l.length).map (cntB (ps.take 0)) = List.replicate l.length 0 := by
        apply List.ext_getElem (by simp)
        intro i h1 h2
        simp [cntB]
      simp only [kpH, blk_mk, lowB, lowR, lowL, low, and_self, and_true, true_and, Bool.and_self, Nat.reduceLT, EV, EX, hP, reduceIte, Nat.reduceEqDiff, Nat.reduceAdd, Nat.reduceSub, lowR_of_plain _ (intRows_plain _), e]
  · rintro k ⟨hk, hall⟩ N hN'
    simp only [EV, EX, hP, reduceIte, Nat.reduceEqDiff, Nat.reduceAdd, Nat.reduceSub, binA, IN]
    refine condS_d (fun h => ?_) (fun h => ?_)
    · have hk2 : k < ps.length := by omega
      have hb : (0 : Int) ≤ k ∧ (k : Int) < ps.length := by omega
      obtain ⟨o, ho, hpo, hpp, hpq, hpq2⟩ := hmem ps[k] (List.getElem_mem hk2)
      have w1 : IntKind.i64.wrap ((l.length : Int) - 1) = l.length - 1 := wrap_i64 (by omega) (by omega)
      simp only [EV, EX, hP, reduceIte, Nat.reduceEqDiff, Nat.reduceAdd, Nat.reduceSub, binA, IN, MX, buildA, fillA, faddrA, load_ptr, load_fp, rowOf_eq, packA, TK.isAgg, cellsOf, cellD, boxA, allocA, storeA, putCells, Nat.reduceLeDiff, extA, iaddr_fz, elSize_eq ty132 ty135, areaRows_length, hb, areaRows_getD hk2, Area.row, ty135, ty3, len_fz ty34, instRows_length, w1]
      have hbad : ∀ {b : Bool}, b = false → (ps.all fun p => decide (p.q < (l.length : Int) - 1) && ps.all fun q => !pairBad p q) = true → (decide (ps[k].q < (l.length : Int) - 1) && ps.all fun q => !pairBad ps[k] q) = b → False := by
        intro b hb h1 h2
        have := List.all_eq_true.1 h1 ps[k] (List.getElem_mem hk2)
        rw [this] at h2; rw [hb] at h2; cases h2
      refine condS_d (fun h2 => ?_) (fun h2 => ?_)
      · simp only [EV, EX, hP, reduceIte, Nat.reduceEqDiff, Nat.reduceAdd, Nat.reduceSub, binA, IN]
        refine hQ _ <| retQ_pure _ rfl rfl ⟨?_, rfl⟩
        simp only [retV]
        congr 1
        rw [eq_comm, Bool.and_eq_false_iff]
        refine .inl ?_
        cases hh : (ps.all fun p => decide (p.q < (l.length : Int) - 1) && ps.all fun q => !pairBad p q) with
        | false => rfl
        | true => exact absurd (by simp; omega) (hbad rfl hh)
      · have hlow2 : ∀ n : Nat, C.N0 n → n < 161 := fun n hn => absurd (hN n hn) (by omega)
        simp only [EV, EX, hP, reduceIte, Nat.reduceEqDiff, Nat.reduceAdd, Nat.reduceSub, binA, IN, len_fz ty132, areaRows_length]
        refine LoopW.by (fun j => ⟨[(29, some (.int .i64 (j : Nat))), (28, some (.int .i64 ps.length)), (27, some (.fz 4 (areaRows ps))), (6, some (.ptr 160 0 0)), (17, some (.int .i64 (k : Nat))), (16, some (.int .i64 ps.length)), (15, some (.fz 4 (areaRows ps))), (4, some (.sl 1 96 0 l.length)), (3, some (.fz 4 (areaRows ps))), (0, some (.fz 4 (instRows l)))],
          [(96, some (.rows 1 (intRows ((List.range l.length).map (cntB (ps.take k)))))), (160, some (.rows 4 [ps[k].row]))], 176⟩) (fun j => j ≤ ps.length ∧ (ps.take j).all (fun q => !pairBad ps[k] q) = true) (fun j => ps.length - j) 0 ⟨Nat.zero_le _, rfl⟩ ?_ ?_
        · refine Sub.keep 161 hlow2 (Nat.le_of_ble_eq_true rfl) (Nat.le_of_ble_eq_true rfl) ?_ ?_
          · simp only [kpT, low, and_self, and_true, true_and, Nat.reduceLT, decide_true, EV, EX, hP, reduceIte, Nat.reduceEqDiff, Nat.reduceAdd, Nat.reduceSub, instRows_plain, areaRows_plain]
            rfl
          · simp only [kpH, blk_mk, lowB, lowR, lowL, low, and_self, and_true, true_and, Bool.and_self, Nat.reduceLT, EV, EX, hP, reduceIte, Nat.reduceEqDiff, Nat.reduceAdd, Nat.reduceSub, lowR_of_plain _ (intRows_plain _), Area.row]
        · rintro j ⟨hj, hallj⟩ N2 hN2
          simp only [EV, EX, hP, reduceIte, Nat.reduceEqDiff, Nat.reduceAdd, Nat.reduceSub, binA, IN]
          refine condS_d (fun h3 => ?_) (fun h3 => ?_)
          · have hj2 : j < ps.length := by omega
            have hbj : (0 : Int) ≤ j ∧ (j : Int) < ps.length := by omega
            simp only [EV, EX, hP, reduceIte, Nat.reduceEqDiff, Nat.reduceAdd, Nat.reduceSub, binA, IN, MX, buildA, fillA, faddrA, load_ptr, load_fp, rowOf_eq, packA, TK.isAgg, cellsOf, cellD, boxA, allocA, storeA, putCells, Nat.reduceLeDiff, extA, iaddr_fz, elSize_eq ty132 ty135, areaRows_length, hbj, areaRows_getD hj2, Area.row, ty135, ty3]
            cases hA : ps[j].has ps[k].o <;> cases hB : ps[k].within ps[j] <;> cases hC : ps[k].apart ps[j] <;> cases hD : ps[j].within ps[k] <;>
            (have hpb : pairBad ps[k] ps[j] = pairBad ps[k] ps[j] := rfl
             have hA' := s_piece_has ps[j] ps[k].o
             have hB' := s_piece_within ps[k] ps[j]
             have hC' := s_piece_apart ps[k] ps[j]
             have hD' := s_piece_within ps[j] ps[k]
             rw [hA] at hA'; rw [hB] at hB'; rw [hC] at hC'; rw [hD] at hD'
             conv at hpb => rhs; simp only [pairBad, hA, hB, hC, hD]
             simp only [Bool.not_true, Bool.not_false, Bool.and_true, Bool.and_false, Bool.true_and, Bool.false_and, Bool.or_true, Bool.or_false, Bool.true_or, Bool.false_or] at hpb
             repeat' (first
              | (refine callW_pure hP hA' rfl rfl ?_; simp only [EV, EX, hP, reduceIte, Nat.reduceEqDiff, Nat.reduceAdd, Nat.reduceSub, binA, IN, MX, buildA, fillA, faddrA, load_ptr, load_fp, rowOf_eq, packA, TK.isAgg, cellsOf, cellD, boxA, allocA, storeA, putCells, Nat.reduceLeDiff, extA, ty135, ty3, pickA, unA, Area.row, Bool.not_true, Bool.not_false])
              | (refine callW_pure hP hB' rfl rfl ?_; simp only [EV, EX, hP, reduceIte, Nat.reduceEqDiff, Nat.reduceAdd, Nat.reduceSub, binA, IN, MX, buildA, fillA, faddrA, load_ptr, load_fp, rowOf_eq, packA, TK.isAgg, cellsOf, cellD, boxA, allocA, storeA, putCells, Nat.reduceLeDiff, extA, ty135, ty3, pickA, unA, Area.row, Bool.not_true, Bool.not_false])
              | (refine callW_pure hP hC' rfl rfl ?_; simp only [EV, EX, hP, reduceIte, Nat.reduceEqDiff, Nat.reduceAdd, Nat.reduceSub, binA, IN, MX, buildA, fillA, faddrA, load_ptr, load_fp, rowOf_eq, packA, TK.isAgg, cellsOf, cellD, boxA, allocA, storeA, putCells, Nat.reduceLeDiff, extA, ty135, ty3, pickA, unA, Area.row, Bool.not_true, Bool.not_false])
              | (refine callW_pure hP hD' rfl rfl ?_; simp only [EV, EX, hP, reduceIte, Nat.reduceEqDiff, Nat.reduceAdd, Nat.reduceSub, binA, IN, MX, buildA, fillA, faddrA, load_ptr, load_fp, rowOf_eq, packA, TK.isAgg, cellsOf, cellD, boxA, allocA, storeA, putCells, Nat.reduceLeDiff, extA, ty135, ty3, pickA, unA, Area.row, Bool.not_true, Bool.not_false]))
             first
              | (have hno : pairBad ps[k] ps[j] = true := hpb
                 refine hQ _ <| retQ_pure _ rfl rfl ⟨?_, rfl⟩
                 simp only [retV, nest_bad (len := (l.length : Int)) hk2 hj2 hno, Bool.false_and])
              | (have hno : pairBad ps[k] ps[j] = false := hpb
                 refine hN2 _ (j + 1) ⟨hj2, all_take hj2 hallj (congrArg (! ·) hno)⟩ (by omega) (Sub.keep 161 hlow2 (Nat.le_of_ble_eq_true rfl) (Nat.le_of_ble_eq_true rfl) ?_ ?_)
                 · simp only [kpT, low, and_self, and_true, true_and, Nat.reduceLT, decide_true, EV, EX, hP, reduceIte, Nat.reduceEqDiff, Nat.reduceAdd, Nat.reduceSub, instRows_plain, areaRows_plain]
                   rw [wrap_i64 (by omega) (by omega)]; rfl
                 · simp only [kpH, blk_mk, lowB, lowR, lowL, low, and_self, and_true, true_and, Bool.and_self, Nat.reduceLT, EV, EX, hP, reduceIte, Nat.reduceEqDiff, Nat.reduceAdd, Nat.reduceSub, lowR_of_plain _ (intRows_plain _), Area.row]))
          · have hj2 : j = ps.length := by omega
            subst hj2
            rw [List.take_length] at hallj
            simp only [EV, EX, hP, reduceIte, Nat.reduceEqDiff, Nat.reduceAdd, Nat.reduceSub, binA, IN, MX, buildA, fillA, faddrA, load_ptr, load_fp, rowOf_eq, packA, TK.isAgg, cellsOf, cellD, boxA, allocA, storeA, putCells, Nat.reduceLeDiff, extA, ty135, ty3, Area.row]
            refine LoopW.by (fun m => ⟨[(9, some (.int .i64 (ps[k].p + (m : Nat)))), (6, some (.ptr 160 0 0)), (17, some (.int .i64 (k : Nat))), (16, some (.int .i64 ps.length)), (15, some (.fz 4 (areaRows ps))), (4, some (.sl 1 96 0 l.length)), (3, some (.fz 4 (areaRows ps))), (0, some (.fz 4 (instRows l)))],
              [(96, some (.rows 1 (intRows (arIn ps l.length k ps[k].p m)))), (160, some (.rows 4 [ps[k].row]))], 176⟩) (fun m => (m : Int) ≤ ps[k].q + 1 - ps[k].p ∧ (m = 0 ∨ ps[k].body = true)) (fun m => l.length - m) 0 ⟨by omega, .inl rfl⟩ ?_ ?_
            · refine Sub.keep 161 hlow2 (Nat.le_of_ble_eq_true rfl) (Nat.le_of_ble_eq_true rfl) ?_ ?_
              · simp only [kpT, low, and_self, and_true, true_and, Nat.reduceLT, decide_true, EV, EX, hP, reduceIte, Nat.reduceEqDiff, Nat.reduceAdd, Nat.reduceSub, instRows_plain, areaRows_plain]
                rw [show ps[k].p + ((0 : Nat) : Int) = ps[k].p from by omega]
              · simp only [kpH, blk_mk, lowB, lowR, lowL, low, and_self, and_true, true_and, Bool.and_self, Nat.reduceLT, EV, EX, hP, reduceIte, Nat.reduceEqDiff, Nat.reduceAdd, Nat.reduceSub, lowR_of_plain _ (intRows_plain _), Area.row, arIn_zero]
            · rintro m ⟨hm, hm2⟩ N3 hN3
              simp only [EV, EX, hP, reduceIte, Nat.reduceEqDiff, Nat.reduceAdd, Nat.reduceSub, binA, IN, MX, buildA, fillA, faddrA, load_ptr, load_fp, rowOf_eq, packA, TK.isAgg, cellsOf, cellD, boxA, allocA, storeA, putCells, Nat.reduceLeDiff, extA, ty135, ty3, ty4, Area.row]
              have hnext : ∀ S, (m = 0 ∧ ps[k].body = false ∨ (m : Int) = ps[k].q + 1 - ps[k].p) → S.blk 96 = some (.rows 1 (intRows (arIn ps l.length k ps[k].p m))) → 97 ≤ S.nx →
                  S.get 16 = some (.int .i64 ps.length) → S.get 15 = some (.fz 4 (areaRows ps)) → S.get 4 = some (.sl 1 96 0 l.length) → S.get 3 = some (.fz 4 (areaRows ps)) → S.get 0 = some (.fz 4 (instRows l)) → S.get 17 = some (.int .i64 (IntKind.i64.wrap ((k : Int) + 1))) → N S := by
                intro S hcase hb1 hnx g1 g2 g3 g4 g5 g6
                refine hN' _ (k + 1) ⟨hk2, all_take hk2 hall ?_⟩ (by omega) (Sub.keep 97 hlow hnx (Nat.le_of_ble_eq_true rfl) ?_ ?_)
                · rw [hallj, Bool.and_true]; simp; omega
                · simp only [kpT, low, and_self, and_true, true_and, Nat.reduceLT, decide_true, instRows_plain, areaRows_plain, g1, g2, g3, g4, g5, g6]
                  rw [wrap_i64 (by omega) (by omega)]; rfl
                · have e : arIn ps l.length k ps[k].p m = (List.range l.length).map (cntB (ps.take (k + 1))) := by
                    apply List.map_congr_left
                    intro i _
                    rw [cntB_take hk2]
                    congr 1
                    rcases hcase with ⟨h6, h7⟩ | h6
                    · rw [if_neg (by omega), if_neg (by simp [h7])]
                    · rcases hm2 with h7 | h7
                      · omega
                      · simp only [h7, true_and, Area.has, Bool.and_eq_true, decide_eq_true_eq]
                        by_cases h8 : ps[k].p ≤ i ∧ (i : Int) ≤ ps[k].q
                        · rw [if_pos (by omega), if_pos h8]
                        · rw [if_neg (by omega), if_neg h8]
                  rw [e] at hb1
                  simp only [kpH, lowB, and_self, and_true, true_and, Nat.reduceLT, lowR_of_plain _ (intRows_plain _), hb1]
              cases hbody : ps[k].body with
              | false =>
                simp only [EV, EX, hP, reduceIte, Nat.reduceEqDiff, Nat.reduceAdd, Nat.reduceSub, binA, IN, MX, buildA, fillA, faddrA, load_ptr, load_fp, rowOf_eq, packA, TK.isAgg, cellsOf, cellD, boxA, allocA, storeA, putCells, Nat.reduceLeDiff, extA, pickA]
                refine hnext _ (.inl ⟨by simpa [hbody] using hm2, hbody⟩) rfl (Nat.le_of_ble_eq_true rfl) rfl rfl rfl rfl rfl rfl
              | true =>
                simp only [EV, EX, hP, reduceIte, Nat.reduceEqDiff, Nat.reduceAdd, Nat.reduceSub, binA, IN, MX, buildA, fillA, faddrA, load_ptr, load_fp, rowOf_eq, packA, TK.isAgg, cellsOf, cellD, boxA, allocA, storeA, putCells, Nat.reduceLeDiff, extA, pickA, ty135, ty3, Area.row]
                refine condS_d (fun h5 => ?_) (fun h5 => ?_)
                · obtain ⟨v, hv⟩ : ∃ v : Nat, (v : Int) = ps[k].p + m := ⟨(ps[k].p + m).toNat, by omega⟩
                  have hvl : v < l.length := by omega
                  have hbv : (0 : Int) ≤ v ∧ (v : Int) < l.length := by omega
                  have hv2 : v < (arIn ps l.length k ps[k].p m).length := by rw [arIn_length]; exact hvl
                  have hcb := cntB_bound (ps.take k) v
                  have hcl : (ps.take k).length ≤ 24 := by simp; omega
                  have w2 : IntKind.i64.wrap (cntB (ps.take k) v + 1) = cntB (ps.take k) v + 1 := wrap_i64 (by omega) (by omega)
                  rw [← hv]
                  simp only [EV, EX, hP, reduceIte, Nat.reduceEqDiff, Nat.reduceAdd, Nat.reduceSub, binA, IN, MX, buildA, fillA, faddrA, load_ptr, load_fp, rowOf_eq, packA, TK.isAgg, cellsOf, cellD, boxA, allocA, storeA, putCells, Nat.reduceLeDiff, extA, iaddr_sl, elSize_eq ty94 ty3, hbv, intRows_get hv2, arIn_get hv2 hv, ty3, w2, intRows_set, arIn_set hv (show 0 ≤ ps[k].p by omega)]
                  refine hN3 _ (m + 1) ⟨by omega, .inr hbody⟩ (by omega) (Sub.keep 161 hlow2 (Nat.le_of_ble_eq_true rfl) (Nat.le_of_ble_eq_true rfl) ?_ ?_)
                  · simp only [kpT, low, and_self, and_true, true_and, Nat.reduceLT, decide_true, EV, EX, hP, reduceIte, Nat.reduceEqDiff, Nat.reduceAdd, Nat.reduceSub, instRows_plain, areaRows_plain]
                    rw [wrap_i64 (by omega) (by omega), show (v : Int) + 1 = ps[k].p + ((m + 1 : Nat) : Int) from by omega]
                  · simp only [kpH, blk_mk, lowB, lowR, lowL, low, and_self, and_true, true_and, Bool.and_self, Nat.reduceLT, EV, EX, hP, reduceIte, Nat.reduceEqDiff, Nat.reduceAdd, Nat.reduceSub, lowR_of_plain _ (intRows_plain _), Area.row, hbody]
                · simp only [EV, EX, hP, reduceIte, Nat.reduceEqDiff, Nat.reduceAdd, Nat.reduceSub, binA, IN]
                  exact hnext _ (.inr (by omega)) rfl (Nat.le_of_ble_eq_true rfl) rfl rfl rfl rfl rfl rfl
    · have hk2 : k = ps.length := by omega
      subst hk2
      rw [List.take_length] at hall
      simp only [EV, EX, hP, reduceIte, Nat.reduceEqDiff, Nat.reduceAdd, Nat.reduceSub, binA, IN, List.take_length]
      refine callW_look hP (s_hasInts ((List.range l.length).map (cntB ps)) (by simp [maxL]; omega) _ [] (fun n => decide (2 < n)) rfl (fun x _ => s_nested1 x)) (by rintro d U ⟨rfl, _⟩; rfl) [96]
        (.cons _ _ _ _ (Tl.frzAll (by simp) rfl (by simp [intRows]) (intRows_plain _) ?_) (.cons _ _ _ _ (.same _ rfl) .nil)) ?_
      · intro r hr; obtain ⟨x, _, rfl⟩ := List.mem_map.1 hr; rfl
      · rintro d U ⟨rfl, _⟩
        simp only [EV, EX, hP, reduceIte, Nat.reduceEqDiff, Nat.reduceAdd, Nat.reduceSub, binA, IN, unA]
        refine hQ _ <| retQ_pure _ rfl rfl ⟨?_, rfl⟩
        simp only [retV, hall, Bool.true_and]
        congr 1
        rw [List.any_map, List.not_any_eq_all_not]
        congr 1
        funext i
        simp only [Function.comp]
        by_cases h9 : cntB ps i ≤ 2
        · simp [h9]
        · simp [h9]; omega
end Go.Fv
/- PLAIN: pairs of locks, by a row of those that are open; a map of rows of truths. -/
namespace Go.Fv

theorem scEq_bool (a b : Bool) : scEq (.bool a) (.bool b) = some (decide (a = b)) := by cases a <;> cases b <;> rfl

def bitD (r : List Bool) : List DV := r.map fun b => DV.bool b
theorem lsEq_bits : ∀ (a b : List Bool), a.length = b.length → lsEq (bitD a) (bitD b) = some (decide (a = b))
  | [], [], _ => rfl
  | x :: xs, y :: ys, h => by
    simp only [bitD, List.map_cons, lsEq, scEq_bool]
    have := lsEq_bits xs ys (by simpa using h)
    unfold bitD at this
    rw [this]
    simp only [Option.some.injEq]
    rw [← Bool.decide_and, decide_eq_decide]
    simp [List.cons.injEq]
  | [], _ :: _, h => by simp at h
  | _ :: _, [], h => by simp at h
theorem kinds_bits : ∀ (n : Nat) (a : List Bool), a.length = n → kindsOk (List.replicate n true) (bitD a) = true
  | 0, [], _ => rfl
  | n + 1, x :: xs, h => by
    simp only [bitD, List.map_cons, List.replicate_succ, kindsOk, kindD, Bool.true_and]
    exact kinds_bits n xs (by simpa using h)
  | 0, _ :: _, h => by simp at h
  | n + 1, [], h => by simp at h
theorem bitD_plain (r : List Bool) : plainL (bitD r) = true := plainL_map fun _ => rfl
/-- Which rows there are, with where each stands first. -/
def sameMap (r : Nat → List Bool) : Nat → List (List Bool × Nat)
  | 0 => []
  | n + 1 => if (sameMap r n).any (fun x => decide (r n = x.1)) then sameMap r n else sameMap r n ++ [(r n, n)]
def findB (key : List Bool) (es : List (List Bool × Nat)) : Option Nat := (es.find? fun x => decide (key = x.1)).map (·.2)
theorem sameMap_at {r : Nat → List Bool} : ∀ {n : Nat} {x : List Bool × Nat}, x ∈ sameMap r n → x.2 < n ∧ r x.2 = x.1
  | 0, x, h => by simp [sameMap] at h
  | n + 1, x, h => by
    unfold sameMap at h
    split at h
    · have := sameMap_at h; exact ⟨by omega, this.2⟩
    · rcases List.mem_append.1 h with h | h
      · have := sameMap_at h; exact ⟨by omega, this.2⟩
      · simp only [List.mem_singleton] at h; subst h; exact ⟨by simp, rfl⟩
theorem findB_some {r : Nat → List Bool} {n : Nat} {key : List Bool} {v : Nat} (h : findB key (sameMap r n) = some v) : r v = key ∧ v < n := by
  unfold findB at h
  rw [Option.map_eq_some_iff] at h
  obtain ⟨x, h1, rfl⟩ := h
  have h2 := List.find?_some h1
  have h3 := sameMap_at (List.mem_of_find?_eq_some h1)
  simp only [decide_eq_true_eq] at h2
  exact ⟨h3.2.trans h2.symm, h3.1⟩
theorem sameMap_has {r : Nat → List Bool} : ∀ {n j : Nat}, j < n → (sameMap r n).any (fun x => decide (r j = x.1)) = true
  | 0, j, h => by omega
  | n + 1, j, h => by
    unfold sameMap
    by_cases hj : j = n
    · subst hj
      split
      · assumption
      · rw [List.any_append]; simp
    · have := sameMap_has (r := r) (show j < n by omega)
      split
      · exact this
      · rw [List.any_append, this]; rfl
theorem findB_has {r : Nat → List Bool} {n : Nat} {key : List Bool} (h : (sameMap r n).any (fun x => decide (key = x.1)) = true) : ∃ v, findB key (sameMap r n) = some v := by
  unfold findB
  rw [List.any_eq_true] at h
  cases hf : (sameMap r n).find? fun x => decide (key = x.1) with
  | none =>
    obtain ⟨x, h1, h2⟩ := h
    have := List.find?_eq_none.1 hf x h1
    simp at this h2
    exact absurd h2 this
  | some x => exact ⟨x.2, rfl⟩
theorem findB_none {r : Nat → List Bool} {n : Nat} {key : List Bool} (h : (sameMap r n).any (fun x => decide (key = x.1)) = false) : findB key (sameMap r n) = none := by
  unfold findB
  rw [List.any_eq_false] at h
  rw [List.find?_eq_none.2 (by simpa using h)]; rfl

/-- Two rows are alike just if they stand first at one place. -/
theorem findB_same {r : Nat → List Bool} {n j k v u : Nat} (hv : findB (r j) (sameMap r n) = some v) (hu : findB (r k) (sameMap r n) = some u) : v = u ↔ r j = r k := by
  constructor
  · rintro rfl
    rw [← (findB_some hv).1, ← (findB_some hu).1]
  · intro e
    rw [e, hu] at hv
    cases hv; rfl

def mapD (es : List (List Bool × Nat)) : List (DV × DV) := es.map fun x => (.agg (bitD x.1), .int .i64 x.2)
theorem mapD_plain (es : List (List Bool × Nat)) : ∀ x ∈ mapD es, plain x.1 = true ∧ plain x.2 = true := by
  intro x hx
  obtain ⟨y, _, rfl⟩ := List.mem_map.1 hx
  exact ⟨by simp only [plain, bitD_plain], rfl⟩

section
variable {ti : Option TI} {n : Nat} (hti : flatT ti = some (List.replicate n true))
include hti
theorem dvEq_bits {a b : List Bool} (ha : a.length = n) (hb : b.length = n) : dvEq ti (.agg (bitD a)) (.agg (bitD b)) = some (decide (a = b)) := by
  simp only [dvEq, hti, kinds_bits n a ha, kinds_bits n b hb, Bool.and_self, if_true, lsEq_bits a b (ha.trans hb.symm)]
theorem findK_bits {key : List Bool} (hk : key.length = n) : ∀ {es : List (List Bool × Nat)}, (∀ x ∈ es, x.1.length = n) → findK ti (.agg (bitD key)) (mapD es) = some ((findB key es).map fun v => .int .i64 v)
  | [], _ => rfl
  | x :: es, h => by
    have ih := findK_bits hk (es := es) fun y hy => h y (List.mem_cons_of_mem _ hy)
    simp only [mapD, List.map_cons, findK]
    rw [dvEq_bits hti hk (h x (List.mem_cons_self ..))]
    by_cases e : key = x.1
    · simp [e, findB]
    · simp only [e, decide_false, cond_false, findB, List.find?_cons]
      exact ih
theorem updK_bits {key : List Bool} {v : Nat} (hk : key.length = n) : ∀ {es : List (List Bool × Nat)}, (∀ x ∈ es, x.1.length = n) → findB key es = none → updK ti (.agg (bitD key)) (.int .i64 v) (mapD es) = some (mapD (es ++ [(key, v)]))
  | [], _, _ => rfl
  | x :: es, h, hf => by
    have hne : key ≠ x.1 := by
      rintro rfl
      simp [findB] at hf
    have hf2 : findB key es = none := by
      simpa [findB, List.find?_cons, hne] using hf
    have ih := updK_bits (v := v) hk (es := es) (fun y hy => h y (List.mem_cons_of_mem _ hy)) hf2
    simp only [mapD, List.map_cons, updK, List.cons_append]
    rw [dvEq_bits hti hk (h x (List.mem_cons_self ..))]
    simp only [hne, decide_false, cond_false]
    unfold mapD at ih
    rw [ih]; rfl
end

def nth (l : List Inst) (i : Nat) : Inst := l.getD i ⟨0, 0, 0, 0⟩
theorem nth_get {l : List Inst} {i : Nat} (h : i < l.length) : nth l i = l[i] := by simp [nth, List.getD_eq_getElem?_getD, h]

/-- One instruction: the pairs so far, the row of those that are open. -/
def pStep (l : List Inst) (same : Nat → Nat → Bool) (i : Nat) (s : List Int × List Nat) : Option (List Int × List Nat) :=
  if (nth l i).op = 9 then
    (if 2 ≤ s.2.length ∨ s.2.any (fun k => decide ((nth l k).a = (nth l i).a)) = true then none else some (s.1, s.2 ++ [i]))
  else if (nth l i).op = 10 then
    match s.2.getLast? with
    | none => none
    | some k => if (nth l k).a ≠ (nth l i).a ∨ same k i = false then none else some (s.1.set k i, s.2.dropLast)
  else some s
def pUpto (l : List Inst) (same : Nat → Nat → Bool) : Nat → Option (List Int × List Nat)
  | 0 => some (List.replicate l.length 0, [])
  | i + 1 => (pUpto l same i).bind (pStep l same i)
def pairsOf (l : List Inst) (same : Nat → Nat → Bool) : Option (List Int) := match pUpto l same l.length with
  | some (out, []) => some out
  | _ => none
def pairsD : Option (List Int) → DV
  | some out => .tup [.fz 1 (intRows out), .bool true]
  | none => .tup [.nilsl, .bool false]

theorem pUpto_none {l : List Inst} {same : Nat → Nat → Bool} {i : Nat} (h : pUpto l same i = none) : ∀ {j : Nat}, i ≤ j → pUpto l same j = none
  | 0, hj => by have : i = 0 := by omega
                subst this; exact h
  | j + 1, hj => by
    by_cases e : i = j + 1
    · subst e; exact h
    · simp only [pUpto, pUpto_none h (show i ≤ j by omega), Option.bind_none]
theorem pairsOf_none {l : List Inst} {same : Nat → Nat → Bool} {i : Nat} (h : pUpto l same i = none) (hi : i ≤ l.length) : pairsOf l same = none := by
  simp only [pairsOf, pUpto_none h hi]

/-- What is so of all on the way. -/
theorem pUpto_ok {l : List Inst} {same : Nat → Nat → Bool} : ∀ {i : Nat} {out : List Int} {op : List Nat}, i ≤ l.length → pUpto l same i = some (out, op) →
    out.length = l.length ∧ op.length ≤ 2 ∧ (∀ k ∈ op, k < i) ∧ ∀ (k : Nat) (v : Int), out[k]? = some v → v = 0 ∨ (0 ≤ v ∧ v < i)
  | 0, out, op, _, h => by
    simp only [pUpto, Option.some.injEq, Prod.mk.injEq] at h
    obtain ⟨rfl, rfl⟩ := h
    refine ⟨by simp, by simp, by simp, fun k v hv => ?_⟩
    rw [List.getElem?_replicate] at hv
    split at hv
    · cases hv; exact .inl rfl
    · cases hv
  | i + 1, out, op, hi, h => by
    simp only [pUpto, Option.bind_eq_some_iff] at h
    obtain ⟨⟨out0, op0⟩, h1, h2⟩ := h
    obtain ⟨g1, g2, g3, g4⟩ := pUpto_ok (show i ≤ l.length by omega) h1
    unfold pStep at h2
    split at h2
    · split at h2
      · cases h2
      · rename_i hc
        cases h2
        refine ⟨g1, ?_, fun k hk => ?_, fun k v hv => (g4 k v hv).imp id fun x => ⟨x.1, by omega⟩⟩
        · simp only [not_or, Nat.not_le] at hc; simp; omega
        · rcases List.mem_append.1 hk with hk | hk
          · have := g3 k hk; omega
          · simp only [List.mem_singleton] at hk; omega
    · split at h2
      · split at h2
        · cases h2
        · rename_i k0 hl
          split at h2
          · cases h2
          · cases h2
            refine ⟨by simp [g1], ?_, fun k hk => ?_, fun k v hv => ?_⟩
            · simp; omega
            · have := g3 k (List.dropLast_subset _ hk); omega
            · rw [List.getElem?_set] at hv
              split at hv
              · split at hv
                · cases hv; exact .inr ⟨by omega, by omega⟩
                · cases hv
              · exact (g4 k v hv).imp id fun x => ⟨x.1, by omega⟩
      · cases h2
        exact ⟨g1, g2, fun k hk => by have := g3 k hk; omega, fun k v hv => (g4 k v hv).imp id fun x => ⟨x.1, by omega⟩⟩
end Go.Fv
/- CONTRACTS: shape.Pairs. -/
namespace Go.Fv
open Go.Proofs

def inB (l : List Inst) (i : Nat) : List Bool := (List.range 24).map (inCell (areasOf l) (areasOf l).length false i)
theorem inRow_bits {l : List Inst} {i : Nat} : inRow (areasOf l) (areasOf l).length false i = bitD (inB l i) := by simp [inRow, inB, bitD]
theorem inB_length (l : List Inst) (i : Nat) : (inB l i).length = 24 := by simp [inB]
theorem insOf_length (l : List Inst) : (insOf l).length = l.length := inRows_length
theorem insOf_plain (l : List Inst) : plainR (insOf l) = true := inRows_plain
theorem insOf_getD {l : List Inst} {i : Nat} (h : i < l.length) : (insOf l).getD i [] = bitD (inB l i) := by
  unfold insOf inRows
  rw [getD_map _ _ _ _ (by simpa using h)]
  simp only [List.getElem_range, Nat.not_lt_zero, decide_false, inRow_bits]

/-- By rows of truths. -/
def sameB (l : List Inst) (k i : Nat) : Bool := decide (inB l k = inB l i)

theorem TlB.plain_map {M : Nm} {h : Nat → Option Blk} {es : List (DV × DV)} (hp : ∀ x ∈ es, plain x.1 = true ∧ plain x.2 = true) : TlB M h (.map es) (.map es) := by
  refine .map es es rfl fun i x y hx hy => ?_
  rw [hx] at hy; cases hy
  have := hp x (List.mem_of_getElem? hx)
  exact ⟨.same _ this.1, .same _ this.2⟩

theorem s_pairs1 (l : List Inst) (k i : Nat) (hk : k < l.length) (hi : i < l.length) :
    Pure Try.prog 96 ([.int .i64 (k : Nat)] ++ [.fp [.fz 4 (instRows l)], .fp [.int .i64 (i : Nat)]]) (.bool (decide ((nth l k).a = (nth l i).a))) := by
  refine Spec.walk ok96 fun C Q hP hN hQ => ?_
  unfold c96
  have hb1 : (0 : Int) ≤ k ∧ (k : Int) < l.length := by omega
  have hb2 : (0 : Int) ≤ i ∧ (i : Int) < l.length := by omega
  simp only [EV, EX, hP, reduceIte, Nat.reduceEqDiff, Nat.reduceAdd, Nat.reduceSub, DR, DX, Nat.reduceMul, keysU, binA, IN, MX, buildA, fillA, faddrA, load_ptr, load_fp, rowOf_eq, packA, TK.isAgg, cellsOf, cellD, boxA, allocA, storeA, putCells, Nat.reduceLeDiff, extA, iaddr_fz, elSize_eq ty34 ty60, instRows_length, hb1, hb2, instRows_getD hk, instRows_getD hi, Inst.row, ty60, ty3, ty34, drF_eq]
  refine ⟨by kernel_rfl, ?_⟩
  refine hQ _ <| retQ_pure _ rfl rfl ⟨?_, rfl⟩
  simp only [retV, nth_get hk, nth_get hi]

def opI (op : List Nat) : List (List DV) := intRows (List.map (fun (k : Nat) => (k : Int)) op)
theorem opI_length (op : List Nat) : (opI op).length = op.length := by simp [opI, intRows]
theorem opI_append (a b : List Nat) : opI (a ++ b) = opI a ++ opI b := by simp [opI, intRows]
theorem opI_one (k : Nat) : opI [k] = [[.int .i64 (k : Nat)]] := rfl
theorem opI_rows (op : List Nat) : ∀ r ∈ opI op, r.length = 1 := by intro r hr; obtain ⟨x, _, rfl⟩ := List.mem_map.1 hr; rfl
theorem opI_take (op : List Nat) (jk : List (List DV)) : (opI op ++ jk).take op.length = opI op := by rw [← opI_length op, List.take_left]
theorem opI_last (op : List Nat) (k : Nat) (jk : List (List DV)) : (opI (op ++ [k]) ++ jk)[op.length]? = some [.int .i64 (k : Nat)] := by
  rw [opI_append, opI_one, List.append_assoc, List.getElem?_append_right (by rw [opI_length]; exact Nat.le_refl _), opI_length, Nat.sub_self]; rfl

theorem putCells_full : ∀ (pre row xs : List DV), row.length = xs.length → putCells (pre ++ row) pre.length xs = pre ++ xs
  | pre, [], [], _ => rfl
  | pre, y :: row, x :: xs, h => by
    have := putCells_full (pre ++ [x]) row xs (by simpa using h)
    simp only [putCells]
    rw [List.set_append_right _ _ (Nat.le_refl _), Nat.sub_self, List.set_cons_zero]
    simpa using this
  | pre, [], _ :: _, h => by simp at h
  | pre, _ :: _, [], h => by simp at h
theorem putCells_all {row xs : List DV} (h : row.length = xs.length) : putCells row 0 xs = xs := by simpa using putCells_full [] row xs h
theorem bitD_length (r : List Bool) : (bitD r).length = r.length := by simp [bitD]
theorem bitD_cells (r : List Bool) : (bitD r).all cellD = true := by
  rw [List.all_eq_true]; intro d hd; obtain ⟨b, _, rfl⟩ := List.mem_map.1 hd; rfl
theorem cells_agg (cs : List DV) : cellsOf (.agg cs) = cs := rfl
theorem cells_int (k : IntKind) (n : Int) : cellsOf (.int k n) = [.int k n] := rfl

set_option maxRecDepth 100000 in
theorem s_pairs (l : List Inst) (hl : l.length ≤ 24) (hx : ∀ x ∈ l, x.may = true) : Pure Try.prog 71 [.fz 4 (instRows l)] (pairsD (pairsOf l (sameB l))) := by
  have hins := s_ins l hl hx
  refine Spec.walk ok71 fun C Q hP hN hQ => ?_
  unfold c71
  have hc : (0 : Int) ≤ l.length ∧ (l.length : Int) * ((8 : Nat) : Int) ≤ 281474976710656 := by omega
  simp only [EV, EX, hP, reduceIte, Nat.reduceEqDiff, Nat.reduceAdd, Nat.reduceSub, DR, DX, Nat.reduceMul, keysU, binA, IN, MX, buildA, fillA, faddrA, load_ptr, load_fp, rowOf_eq, packA, TK.isAgg, cellsOf, cellD, boxA, allocA, storeA, putCells, Nat.reduceLeDiff, extA, ty34, len_fz ty34, instRows_length, mkslA, elTI_eq ty94, ty3, true_and, and_self, hc, Int.toNat_natCast, intRows_replicate, bslA, Nat.zero_mul, setRows]
  refine callD_pure hP hins (by simp [plainL, plain, instRows_plain]) (by simp [plain, insOf_plain]) ?_
  simp only [EV, EX, hP, reduceIte, Nat.reduceEqDiff, Nat.reduceAdd, Nat.reduceSub, DR, DX, Nat.reduceMul, keysU, drF_eq]
  refine ⟨by kernel_rfl, ?_⟩
  simp only [EV, EX, hP, reduceIte, Nat.reduceEqDiff, Nat.reduceAdd, Nat.reduceSub, len_fz ty119, insOf_length]
  have h122 : flatT (tiOf Try.prog 122) = some (List.replicate 24 true) := by rw [ty122]; rfl
  refine LoopW.by (fun (x : Nat × List Int × List Nat × List (List DV)) => ⟨[(22, some (.int .i64 (x.1 : Nat))), (21, some (.int .i64 l.length)), (20, some (.fz 24 (insOf l))), (7, some (.fz 24 (insOf l))), (6, some (.mp 2)), (5, some (.sl 1 3 0 x.2.2.1.length)), (4, some (.sl 1 1 0 l.length)), (1, some (.ptr 0 0 0))],
    [(0, some (.rows 1 [[.fz 4 (instRows l)]])), (1, some (.rows 1 (intRows x.2.1))), (2, some (.map (mapD (sameMap (inB l) x.1)))), (3, some (.rows 1 (opI x.2.2.1 ++ x.2.2.2)))], 64⟩)
    (fun x => x.1 ≤ l.length ∧ pUpto l (sameB l) x.1 = some (x.2.1, x.2.2.1) ∧ plainR x.2.2.2 = true) (fun x => l.length - x.1) (0, List.replicate l.length 0, [], []) ⟨Nat.zero_le _, rfl, rfl⟩ ?_ ?_
  · refine Sub.tell ⟨1, [(80, 1), (112, 2), (96, 3)], [], []⟩ (fun n hn => absurd (hN n hn) (by omega)) rfl ?_ ?_
    · exact ⟨⟨_, rfl, .same _ rfl⟩, ⟨_, rfl, .same _ rfl⟩, ⟨_, rfl, .same _ (by simp only [plain, insOf_plain])⟩, ⟨_, rfl, .same _ (by simp only [plain, insOf_plain])⟩, ⟨_, rfl, .mp 112 2 rfl⟩, ⟨_, rfl, .sl 1 96 3 0 0 rfl⟩, ⟨_, rfl, .sl 1 80 1 0 _ rfl⟩, ⟨_, rfl, .ptr 0 0 0 0 rfl⟩, trivial⟩
    · exact ⟨.inl ⟨0, _, rfl, by simp, rfl, lowB_same (by simp [plainR, plainL, plain, instRows_plain])⟩, .inl ⟨80, _, rfl, by simp, rfl, lowB_same (intRows_plain _)⟩, .inl ⟨112, _, rfl, by simp, rfl, TlB.plain_map (by simp)⟩, .inl ⟨96, _, rfl, by simp, rfl, lowB_same rfl⟩, trivial⟩
  · rintro ⟨i, out, op, jk⟩ ⟨hi, hup, hjk⟩ N hN'
    simp only at hi hup hjk hN'
    simp only [EV, EX, hP, reduceIte, Nat.reduceEqDiff, Nat.reduceAdd, Nat.reduceSub, binA, IN]
    obtain ⟨hout, hop2, hopi, _⟩ := pUpto_ok hi hup
    refine condS_d (fun h => ?_) (fun h => ?_)
    · have hi2 : i < l.length := by omega
      have hb : (0 : Int) ≤ i ∧ (i : Int) < l.length := by omega
      have hlen : ∀ n, ∀ x ∈ sameMap (inB l) n, x.1.length = 24 := fun n x hx => by rw [← (sameMap_at hx).2]; exact inB_length l _
      have fk := findK_bits h122 (inB_length l i) (hlen i)
      have dk := dvEq_bits h122 (inB_length l i) (inB_length l i)
      rw [ty122] at fk dk
      have hm : ∃ b, b = (sameMap (inB l) i).any (fun x => decide (inB l i = x.1)) := ⟨_, rfl⟩
      obtain ⟨b, hbm⟩ := hm
      have hsucc : pUpto l (sameB l) (i + 1) = pStep l (sameB l) i (out, op) := by simp only [pUpto, hup, Option.bind_some]
      have hnth := nth_get hi2
      have h24 : (bitD (inB l i)).length = 24 := by rw [bitD_length, inB_length]
      have htk : (bitD (inB l i)).take 24 = bitD (inB l i) := List.take_of_length_le (by omega)
      have hput : ∀ row : List DV, row.length = 24 → putCells row 0 (bitD (inB l i)) = bitD (inB l i) := fun row h => putCells_all (by omega)
      simp only [EV, EX, hP, reduceIte, Nat.reduceEqDiff, Nat.reduceAdd, Nat.reduceSub, binA, IN, MX, buildA, fillA, faddrA, load_ptr, load_fp, rowOf_eq, packA, TK.isAgg, cellsOf, cellD, boxA, allocA, storeA, putCells, Nat.reduceLeDiff, extA, iaddr_fz, elSize_eq ty119 ty122, insOf_length, hb, insOf_getD hi2, ty122, ty3, h24, htk, cells_agg, cells_int, Nat.le_refl, if_true, hput, bitD_cells, Nat.reduceAdd, lkpA, ty124, dk, fk, Option.isSome_some]
      have hes : findB (inB l i) (sameMap (inB l) i) = none ∧ sameMap (inB l) (i + 1) = sameMap (inB l) i ++ [(inB l i, i)] ∨ (∃ v, findB (inB l i) (sameMap (inB l) i) = some v) ∧ sameMap (inB l) (i + 1) = sameMap (inB l) i := by
        cases b with
        | false => exact .inl ⟨findB_none hbm.symm, by simp only [sameMap, ← hbm, Bool.false_eq_true, if_false]⟩
        | true => exact .inr ⟨findB_has hbm.symm, by simp only [sameMap, ← hbm, if_true]⟩
      have w1 : IntKind.i64.wrap ((i : Int) + 1) = i + 1 := wrap_i64 (by omega) (by omega)
      have hT : ∀ (S : St) (op' : List Nat) (q : Nat), S.get 22 = some (.int .i64 ((i : Int) + 1)) → S.get 21 = some (.int .i64 l.length) → S.get 20 = some (.fz 24 (insOf l)) → S.get 7 = some (.fz 24 (insOf l)) → S.get 6 = some (.mp 2) → S.get 5 = some (.sl 1 q 0 op'.length) →
          S.get 4 = some (.sl 1 1 0 l.length) → S.get 1 = some (.ptr 0 0 0) → ∀ M : Nm, M.new 0 = some 0 → M.new 1 = some 1 → M.new 2 = some 2 → M.new q = some 3 →
          tlT M S [(22, some (.int .i64 ((i + 1 : Nat)))), (21, some (.int .i64 l.length)), (20, some (.fz 24 (insOf l))), (7, some (.fz 24 (insOf l))), (6, some (.mp 2)), (5, some (.sl 1 3 0 op'.length)), (4, some (.sl 1 1 0 l.length)), (1, some (.ptr 0 0 0))] := by
        intro S op' q g1 g2 g3 g4 g5 g6 g7 g8 M m0 m1 m2 m3
        exact ⟨⟨_, g1, by rw [show (((i + 1 : Nat)) : Int) = i + 1 from by omega]; exact .same _ rfl⟩, ⟨_, g2, .same _ rfl⟩, ⟨_, g3, .same _ (by simp only [plain, insOf_plain])⟩, ⟨_, g4, .same _ (by simp only [plain, insOf_plain])⟩, ⟨_, g5, .mp 2 2 m2⟩, ⟨_, g6, .sl 1 q 3 0 _ m3⟩, ⟨_, g7, .sl 1 1 1 0 _ m1⟩, ⟨_, g8, .ptr 0 0 0 0 m0⟩, trivial⟩
      have hH : ∀ (S : St) (out' : List Int) (op' : List Nat) (jk' : List (List DV)) (q : Nat), S.blk 0 = some (.rows 1 [[.fz 4 (instRows l)]]) → S.blk 1 = some (.rows 1 (intRows out')) → S.blk 2 = some (.map (mapD (sameMap (inB l) (i + 1)))) → S.blk q = some (.rows 1 (opI op' ++ jk')) → plainR jk' = true →
          ∀ M : Nm, M.Z = [] → M.new 0 = some 0 → M.new 1 = some 1 → M.new 2 = some 2 → M.new q = some 3 →
          tlH M S [(0, some (.rows 1 [[.fz 4 (instRows l)]])), (1, some (.rows 1 (intRows out'))), (2, some (.map (mapD (sameMap (inB l) (i + 1))))), (3, some (.rows 1 (opI op' ++ jk')))] := by
        intro S out' op' jk' q g0 g1 g2 g3 gj M mz m0 m1 m2 m3
        exact ⟨.inl ⟨0, _, m0, by simp [mz], g0, lowB_same (by simp [plainR, plainL, plain, instRows_plain])⟩, .inl ⟨1, _, m1, by simp [mz], g1, lowB_same (intRows_plain _)⟩, .inl ⟨2, _, m2, by simp [mz], g2, TlB.plain_map (mapD_plain _)⟩,
          .inl ⟨q, _, m3, by simp [mz], g3, lowB_same (by rw [plainR_append, gj, opI, intRows_plain]; rfl)⟩, trivial⟩
      have hfail : pStep l (sameB l) i (out, op) = none → pairsD (pairsOf l (sameB l)) = .tup [.nilsl, .bool false] := fun hf => by
        rw [pairsOf_none (i := i + 1) (by rw [hsucc]; exact hf) hi2]; rfl
      have hcap : ∀ (S : St), S.blk 0 = some (.rows 1 [[.fz 4 (instRows l)]]) → S.blk 128 = some (.rows 1 [[.int .i64 i]]) → S.blk 3 = some (.rows 1 (opI op ++ jk)) →
          TlL ⟨0, [], [], [0, 3, 128]⟩ S.blk ([.sl 1 3 0 op.length, .fn 96 [] [.ptr 0 0 0, .ptr 128 0 0]] ++ []) [.fz 1 (opI op), .fn 96 [] [.fp [.fz 4 (instRows l)], .fp [.int .i64 (i : Nat)]]] := by
        intro S g0 g1 g3
        refine .cons _ _ _ _ (Tl.freeze (by simp) g3 (by simp [opI_length]) ?_ (intRows_plain _) (opI_rows op)) (.cons _ _ _ _ (.fn _ _ _ _ _ rfl rfl (by simp) ?_) .nil)
        · rw [List.drop_zero, opI_take]
        · intro j x y hx hy
          match j with
          | 0 => cases hx; cases hy; exact Tl.cell (by simp) g0 (by simp [plainL, plain, instRows_plain])
          | 1 => cases hx; cases hy; exact Tl.cell (by simp) g1 rfl
          | j + 2 => simp at hx
      have hq1 : ∀ n, C.N0 n → n < 3 := fun n hn => absurd (hN n hn) (by omega)
      have hq2 : ∀ n, C.N0 n → n < 4 := fun n hn => absurd (hN n hn) (by omega)
      have hle : op.length ≤ (opI op ++ jk).length := by rw [List.length_append, opI_length]; omega
      have hroom : ((op.length : Int) + ((1 : Nat) : Int)) * ((8 : Nat) : Int) ≤ 140737488355328 := by omega
      rcases hes with ⟨hnone, hsm⟩ | ⟨⟨v0, hv0⟩, hsm⟩
      · have uk := updK_bits (v := i) h122 (inB_length l i) (hlen i) hnone
        rw [ty122] at uk
        simp only [hnone, Option.map_none, found, Option.isSome_none, cond_true]
        simp only [EV, EX, hP, reduceIte, Nat.reduceEqDiff, Nat.reduceAdd, Nat.reduceSub, binA, IN, MX, buildA, fillA, faddrA, load_ptr, load_fp, rowOf_eq, packA, TK.isAgg, cellsOf, cellD, boxA, allocA, storeA, putCells, Nat.reduceLeDiff, extA, unA, Bool.not_false, ty3, ty122, ty124, mupdA, dk, uk, h24, htk, Option.isSome_some, if_true, iaddr_fz, elSize_eq ty34 ty60, instRows_length, hb, instRows_getD hi2, Inst.row, ty60, ty34, Nat.le_refl, ← hsm]
        refine condS_d (fun h9 => ?_) (fun h9 => ?_)
        · have hst : pStep l (sameB l) i (out, op) = if 2 ≤ op.length ∨ op.any (fun k => decide ((nth l k).a = (nth l i).a)) = true then none else some (out, op ++ [i]) := by
            simp only [pStep, hnth, h9, if_true]
          simp only [EV, EX, hP, reduceIte, Nat.reduceEqDiff, Nat.reduceAdd, Nat.reduceSub, binA, IN, len_sl ty94]
          refine gdS_fd (fun h2 => ?_) (fun h2 => ?_)
          · simp only [EV, EX, hP, reduceIte, Nat.reduceEqDiff, Nat.reduceAdd, Nat.reduceSub, binA, IN, MX, buildA, fillA, faddrA, load_ptr, load_fp, rowOf_eq, packA, TK.isAgg, cellsOf, cellD, boxA, allocA, storeA, putCells, Nat.reduceLeDiff, extA, mkfnA, h2, decide_false, pickA]
            refine callW_look hP (s_hasInts (op.map fun (k : Nat) => (k : Int)) (by simp [maxL]; omega) _ _ (fun k => decide ((nth l k.toNat).a = (nth l i).a)) (by simp [plainL, plain, instRows_plain]) ?_) (by rintro d U ⟨rfl, _⟩; rfl) [0, 3, 128] (hcap _ rfl rfl rfl) ?_
            · intro x hx
              obtain ⟨k, hk, rfl⟩ := List.mem_map.1 hx
              rw [Int.toNat_natCast]
              exact s_pairs1 l k i (by have := hopi k hk; omega) hi2
            · rintro d U ⟨rfl, _⟩
              rw [List.any_map]
              simp only [Function.comp_def, Int.toNat_natCast]
              simp only [EV, EX, hP, reduceIte, Nat.reduceEqDiff, Nat.reduceAdd, Nat.reduceSub, binA, IN, pickA]
              refine condS_i (fun ha => ?_) (fun ha => ?_)
              · simp only [EV, EX, hP, reduceIte, Nat.reduceEqDiff, Nat.reduceAdd, Nat.reduceSub, binA, IN]
                refine hQ _ <| retQ_pure _ rfl rfl ⟨?_, rfl⟩
                rw [hfail (by rw [hst, if_pos (.inr ha)])]; rfl
              · simp only [EV, EX, hP, reduceIte, Nat.reduceEqDiff, Nat.reduceAdd, Nat.reduceSub, binA, IN, MX, buildA, fillA, faddrA, load_ptr, load_fp, rowOf_eq, packA, TK.isAgg, cellsOf, cellD, boxA, allocA, storeA, putCells, Nat.reduceLeDiff, extA, ty3, bslA, elTI_eq ty94, setRows, List.replicate_succ, List.replicate_zero, List.getD_cons_zero, Nat.reduceLT, Nat.reduceMul, true_and, and_true, appA, ty94, rowsOf, hle, hroom, opI_take, w1]
                have hst2 : pUpto l (sameB l) (i + 1) = some (out, op ++ [i]) := by rw [hsucc, hst, if_neg (by rw [ha]; simp; omega)]
                have e1 : op.length + 1 = (op ++ [i]).length := by simp
                have e2 : opI op ++ [[.int .i64 i]] = opI (op ++ [i]) ++ [] := by rw [opI_append, opI_one, List.append_nil]
                rw [e1, e2]
                first
                | exact hN' _ (i + 1, out, op ++ [i], []) ⟨hi2, hst2, rfl⟩ (by simp; omega) (Sub.tell ⟨3, [(640, 3)], [], []⟩ hq1 rfl (hT _ (op ++ [i]) 640 rfl rfl rfl rfl rfl rfl rfl rfl _ rfl rfl rfl rfl) (hH _ out (op ++ [i]) [] 640 rfl rfl rfl rfl rfl _ rfl rfl rfl rfl rfl))
                | exact hN' _ (i + 1, out, op ++ [i], []) ⟨hi2, hst2, rfl⟩ (by simp; omega) (Sub.tell ⟨3, [(704, 3)], [], []⟩ hq1 rfl (hT _ (op ++ [i]) 704 rfl rfl rfl rfl rfl rfl rfl rfl _ rfl rfl rfl rfl) (hH _ out (op ++ [i]) [] 704 rfl rfl rfl rfl rfl _ rfl rfl rfl rfl rfl))
          · simp only [EV, EX, hP, reduceIte, Nat.reduceEqDiff, Nat.reduceAdd, Nat.reduceSub, binA, IN, h2, decide_true, pickA]
            refine hQ _ <| retQ_pure _ rfl rfl ⟨?_, rfl⟩
            rw [hfail (by rw [hst, if_pos (.inl (by omega))])]; rfl
        · simp only [EV, EX, hP, reduceIte, Nat.reduceEqDiff, Nat.reduceAdd, Nat.reduceSub, binA, IN, h9, decide_false]
          refine condS_d (fun h10 => ?_) (fun h10 => ?_)
          · simp only [EV, EX, hP, reduceIte, Nat.reduceEqDiff, Nat.reduceAdd, Nat.reduceSub, binA, IN, len_sl ty94]
            rcases (List.eq_nil_or_concat op).imp id (fun x => let ⟨a, b, e⟩ := x; (⟨a, b, by rw [e, List.concat_eq_append]⟩ : ∃ a b, op = a ++ [b])) with rfl | ⟨op', k, rfl⟩
            · have hst : pStep l (sameB l) i (out, []) = none := by
                simp only [pStep, hnth]
                rw [if_neg h9, if_pos h10]; rfl
              have hw : IntKind.i64.wrap (((0 : Nat) : Int) - 1) = -1 := rfl
              have hneg : ((-1 : Int) < 0) = True := by simp
              simp only [EV, EX, hP, reduceIte, Nat.reduceEqDiff, Nat.reduceAdd, Nat.reduceSub, DR, DX, Nat.reduceMul, keysU, binA, IN, hw, hneg, decide_true, pickA, drF_eq]
              refine ⟨by kernel_rfl, ?_⟩
              refine hQ _ <| retQ_pure _ rfl rfl ⟨?_, rfl⟩
              rw [hfail hst]; rfl
            · have hki : k < i := hopi k (by simp)
              have hk : k < l.length := by omega
              have hknth := nth_get hk
              obtain ⟨vk, hvk⟩ := findB_has (sameMap_has (r := inB l) (show k < i + 1 by omega))
              obtain ⟨vi, hvi⟩ := findB_has (sameMap_has (r := inB l) (show i < i + 1 by omega))
              have hvs := findB_same hvk hvi
              have hvkb := (findB_some hvk).2
              have hvib := (findB_some hvi).2
              have fk2 := findK_bits h122 (inB_length l k) (hlen (i + 1))
              have dk2 := dvEq_bits h122 (inB_length l k) (inB_length l k)
              have fi2 := findK_bits h122 (inB_length l i) (hlen (i + 1))
              rw [ty122] at fk2 dk2 fi2
              rw [hvk] at fk2
              rw [hvi] at fi2
              have h24k : (bitD (inB l k)).length = 24 := by rw [bitD_length, inB_length]
              have htkk : (bitD (inB l k)).take 24 = bitD (inB l k) := List.take_of_length_le (by omega)
              have hw : IntKind.i64.wrap (((op' ++ [k]).length : Int) - 1) = op'.length := by
                rw [List.length_append, List.length_singleton, wrap_i64 (by simp at hop2; omega) (by simp at hop2; omega)]; omega
              have hneg : ((op'.length : Int) < 0) = False := by simp
              have hbl : (0 : Int) ≤ op'.length ∧ (op'.length : Int) < ((op' ++ [k]).length : Nat) := by rw [List.length_append, List.length_singleton]; omega
              have hbk : (0 : Int) ≤ k ∧ (k : Int) < l.length := by omega
              have hst : pStep l (sameB l) i (out, op' ++ [k]) = if (nth l k).a ≠ (nth l i).a ∨ sameB l k i = false then none else some (out.set k i, op') := by
                simp only [pStep, hnth]
                rw [if_neg h9, if_pos h10]
                simp
              by_cases hA : l[k].a = l[i].a
              · have hB : ((vk : Int) = (vi : Int)) ↔ inB l k = inB l i := by rw [← hvs]; omega
                by_cases hS : inB l k = inB l i
                · have hB := hB.2 hS
                  have hst2 : pUpto l (sameB l) (i + 1) = some (out.set k i, op') := by
                    rw [hsucc, hst, if_neg]
                    rw [hknth, hnth]; simp [hA, sameB, hS]
                  have hko : k < out.length := by omega
                  simp only [EV, EX, hP, reduceIte, Nat.reduceEqDiff, Nat.reduceAdd, Nat.reduceSub, DR, DX, Nat.reduceMul, keysU, binA, IN, MX, buildA, fillA, faddrA, load_ptr, load_fp, rowOf_eq, packA, TK.isAgg, cellsOf, cellD, boxA, allocA, storeA, putCells, Nat.reduceLeDiff, extA, hw, hneg, decide_false, iaddr_sl, elSize_eq ty94 ty3, hbl, opI_last, ty3, ty34, iaddr_fz, elSize_eq ty34 ty60, instRows_length, hbk, hb, instRows_getD hk, instRows_getD hi2, Inst.row, ty60, pickA, hA, decide_true, Bool.not_true,
                    elSize_eq ty119 ty122, insOf_length, insOf_getD hk, insOf_getD hi2, ty122, ty124, h24, h24k, htk, htkk, lkpA, dk, dk2, fk2, fi2, Option.isSome_some, if_true, Option.map_some, found, cond_false, hB, drF_eq]
                  refine ⟨by kernel_rfl, ?_⟩
                  simp only [intRows_get hko, List.set_cons_zero, intRows_set]
                  simp only [EV, EX, hP, reduceIte, Nat.reduceEqDiff, Nat.reduceAdd, Nat.reduceSub, DR, DX, Nat.reduceMul, keysU, binA, IN, MX, buildA, fillA, faddrA, load_ptr, load_fp, rowOf_eq, packA, TK.isAgg, cellsOf, cellD, boxA, allocA, storeA, putCells, Nat.reduceLeDiff, extA, drF_eq]
                  refine ⟨by kernel_rfl, ?_⟩
                  have hz0 : ((0 : Int) ≤ (op'.length : Int)) = True := by simp
                  have hz1 : (op'.length ≤ (op' ++ [k]).length) = True := by simp
                  have e2 : opI (op' ++ [k]) ++ jk = opI op' ++ ([.int .i64 (k : Nat)] :: jk) := by rw [opI_append, opI_one, List.append_assoc]; rfl
                  have hjk2 : plainR ([.int .i64 (k : Nat)] :: jk) = true := by simp [plainR, plainL, plain, hjk]
                  simp only [EV, EX, hP, reduceIte, Nat.reduceEqDiff, Nat.reduceAdd, Nat.reduceSub, binA, IN, sliceA, elSize_eq ty94 ty3, bnd, hz0, hz1, if_true, Int.toNat_natCast, Nat.zero_le, Nat.le_refl, Option.isSome_none, Bool.false_eq_true, false_implies, and_true, true_and, Nat.sub_zero, Nat.zero_add, w1]
                  rw [e2]
                  exact hN' _ (i + 1, out.set k i, op', [.int .i64 (k : Nat)] :: jk) ⟨hi2, hst2, hjk2⟩ (by simp; omega) (Sub.tell ⟨4, [], [], []⟩ hq2 rfl (hT _ op' 3 rfl rfl rfl rfl rfl rfl rfl rfl _ rfl rfl rfl rfl) (hH _ (out.set k i) op' ([.int .i64 (k : Nat)] :: jk) 3 rfl rfl rfl rfl hjk2 _ rfl rfl rfl rfl rfl))
                · have hB : ¬ ((vk : Int) = (vi : Int)) := fun x => hS (hB.1 x)
                  simp only [EV, EX, hP, reduceIte, Nat.reduceEqDiff, Nat.reduceAdd, Nat.reduceSub, DR, DX, Nat.reduceMul, keysU, binA, IN, MX, buildA, fillA, faddrA, load_ptr, load_fp, rowOf_eq, packA, TK.isAgg, cellsOf, cellD, boxA, allocA, storeA, putCells, Nat.reduceLeDiff, extA, hw, hneg, decide_false, iaddr_sl, elSize_eq ty94 ty3, hbl, opI_last, ty3, ty34, iaddr_fz, elSize_eq ty34 ty60, instRows_length, hbk, hb, instRows_getD hk, instRows_getD hi2, Inst.row, ty60, pickA, hA, decide_true, Bool.not_true,
                    elSize_eq ty119 ty122, insOf_length, insOf_getD hk, insOf_getD hi2, ty122, ty124, h24, h24k, htk, htkk, lkpA, dk, dk2, fk2, fi2, Option.isSome_some, if_true, Option.map_some, found, cond_false, hB, Bool.not_false, drF_eq]
                  refine ⟨by kernel_rfl, ?_⟩
                  refine hQ _ <| retQ_pure _ rfl rfl ⟨?_, rfl⟩
                  rw [hfail (by rw [hst, if_pos]; rw [hknth, hnth]; simp [hA, sameB, hS])]; rfl
              · simp only [EV, EX, hP, reduceIte, Nat.reduceEqDiff, Nat.reduceAdd, Nat.reduceSub, DR, DX, Nat.reduceMul, keysU, binA, IN, MX, buildA, fillA, faddrA, load_ptr, load_fp, rowOf_eq, packA, TK.isAgg, cellsOf, cellD, boxA, allocA, storeA, putCells, Nat.reduceLeDiff, extA, hw, hneg, decide_false, iaddr_sl, elSize_eq ty94 ty3, hbl, opI_last, ty3, ty34, iaddr_fz, elSize_eq ty34 ty60, instRows_length, hbk, hb, instRows_getD hk, instRows_getD hi2, Inst.row, ty60, pickA, hA, Bool.not_false, drF_eq]
                refine ⟨by kernel_rfl, ?_⟩
                refine hQ _ <| retQ_pure _ rfl rfl ⟨?_, rfl⟩
                rw [hfail (by rw [hst, if_pos]; rw [hknth, hnth]; simp [hA])]; rfl
          · have hst2 : pUpto l (sameB l) (i + 1) = some (out, op) := by
              rw [hsucc]; simp only [pStep, hnth]; rw [if_neg h9, if_neg h10]
            simp only [EV, EX, hP, reduceIte, Nat.reduceEqDiff, Nat.reduceAdd, Nat.reduceSub, binA, IN, w1]
            exact hN' _ (i + 1, out, op, jk) ⟨hi2, hst2, hjk⟩ (by simp; omega) (Sub.tell ⟨4, [], [], []⟩ hq2 rfl (hT _ op 3 rfl rfl rfl rfl rfl rfl rfl rfl _ rfl rfl rfl rfl) (hH _ out op jk 3 rfl rfl rfl rfl hjk _ rfl rfl rfl rfl rfl))
      · simp only [hv0, Option.map_some, found, Option.isSome_some, cond_true]
        simp only [EV, EX, hP, reduceIte, Nat.reduceEqDiff, Nat.reduceAdd, Nat.reduceSub, binA, IN, MX, buildA, fillA, faddrA, load_ptr, load_fp, rowOf_eq, packA, TK.isAgg, cellsOf, cellD, boxA, allocA, storeA, putCells, Nat.reduceLeDiff, extA, unA, Bool.not_true, ty3, ty34, iaddr_fz, elSize_eq ty34 ty60, instRows_length, hb, instRows_getD hi2, Inst.row, ty60, ← hsm]
        refine condS_d (fun h9 => ?_) (fun h9 => ?_)
        · have hst : pStep l (sameB l) i (out, op) = if 2 ≤ op.length ∨ op.any (fun k => decide ((nth l k).a = (nth l i).a)) = true then none else some (out, op ++ [i]) := by
            simp only [pStep, hnth, h9, if_true]
          simp only [EV, EX, hP, reduceIte, Nat.reduceEqDiff, Nat.reduceAdd, Nat.reduceSub, binA, IN, len_sl ty94]
          refine gdS_fd (fun h2 => ?_) (fun h2 => ?_)
          · simp only [EV, EX, hP, reduceIte, Nat.reduceEqDiff, Nat.reduceAdd, Nat.reduceSub, binA, IN, MX, buildA, fillA, faddrA, load_ptr, load_fp, rowOf_eq, packA, TK.isAgg, cellsOf, cellD, boxA, allocA, storeA, putCells, Nat.reduceLeDiff, extA, mkfnA, h2, decide_false, pickA]
            refine callW_look hP (s_hasInts (op.map fun (k : Nat) => (k : Int)) (by simp [maxL]; omega) _ _ (fun k => decide ((nth l k.toNat).a = (nth l i).a)) (by simp [plainL, plain, instRows_plain]) ?_) (by rintro d U ⟨rfl, _⟩; rfl) [0, 3, 128] (hcap _ rfl rfl rfl) ?_
            · intro x hx
              obtain ⟨k, hk, rfl⟩ := List.mem_map.1 hx
              rw [Int.toNat_natCast]
              exact s_pairs1 l k i (by have := hopi k hk; omega) hi2
            · rintro d U ⟨rfl, _⟩
              rw [List.any_map]
              simp only [Function.comp_def, Int.toNat_natCast]
              simp only [EV, EX, hP, reduceIte, Nat.reduceEqDiff, Nat.reduceAdd, Nat.reduceSub, binA, IN, pickA]
              refine condS_i (fun ha => ?_) (fun ha => ?_)
              · simp only [EV, EX, hP, reduceIte, Nat.reduceEqDiff, Nat.reduceAdd, Nat.reduceSub, binA, IN]
                refine hQ _ <| retQ_pure _ rfl rfl ⟨?_, rfl⟩
                rw [hfail (by rw [hst, if_pos (.inr ha)])]; rfl
              · simp only [EV, EX, hP, reduceIte, Nat.reduceEqDiff, Nat.reduceAdd, Nat.reduceSub, binA, IN, MX, buildA, fillA, faddrA, load_ptr, load_fp, rowOf_eq, packA, TK.isAgg, cellsOf, cellD, boxA, allocA, storeA, putCells, Nat.reduceLeDiff, extA, ty3, bslA, elTI_eq ty94, setRows, List.replicate_succ, List.replicate_zero, List.getD_cons_zero, Nat.reduceLT, Nat.reduceMul, true_and, and_true, appA, ty94, rowsOf, hle, hroom, opI_take, w1]
                have hst2 : pUpto l (sameB l) (i + 1) = some (out, op ++ [i]) := by rw [hsucc, hst, if_neg (by rw [ha]; simp; omega)]
                have e1 : op.length + 1 = (op ++ [i]).length := by simp
                have e2 : opI op ++ [[.int .i64 i]] = opI (op ++ [i]) ++ [] := by rw [opI_append, opI_one, List.append_nil]
                rw [e1, e2]
                first
                | exact hN' _ (i + 1, out, op ++ [i], []) ⟨hi2, hst2, rfl⟩ (by simp; omega) (Sub.tell ⟨3, [(640, 3)], [], []⟩ hq1 rfl (hT _ (op ++ [i]) 640 rfl rfl rfl rfl rfl rfl rfl rfl _ rfl rfl rfl rfl) (hH _ out (op ++ [i]) [] 640 rfl rfl rfl rfl rfl _ rfl rfl rfl rfl rfl))
                | exact hN' _ (i + 1, out, op ++ [i], []) ⟨hi2, hst2, rfl⟩ (by simp; omega) (Sub.tell ⟨3, [(704, 3)], [], []⟩ hq1 rfl (hT _ (op ++ [i]) 704 rfl rfl rfl rfl rfl rfl rfl rfl _ rfl rfl rfl rfl) (hH _ out (op ++ [i]) [] 704 rfl rfl rfl rfl rfl _ rfl rfl rfl rfl rfl))
          · simp only [EV, EX, hP, reduceIte, Nat.reduceEqDiff, Nat.reduceAdd, Nat.reduceSub, binA, IN, h2, decide_true, pickA]
            refine hQ _ <| retQ_pure _ rfl rfl ⟨?_, rfl⟩
            rw [hfail (by rw [hst, if_pos (.inl (by omega))])]; rfl
        · simp only [EV, EX, hP, reduceIte, Nat.reduceEqDiff, Nat.reduceAdd, Nat.reduceSub, binA, IN, h9, decide_false]
          refine condS_d (fun h10 => ?_) (fun h10 => ?_)
          · simp only [EV, EX, hP, reduceIte, Nat.reduceEqDiff, Nat.reduceAdd, Nat.reduceSub, binA, IN, len_sl ty94]
            rcases (List.eq_nil_or_concat op).imp id (fun x => let ⟨a, b, e⟩ := x; (⟨a, b, by rw [e, List.concat_eq_append]⟩ : ∃ a b, op = a ++ [b])) with rfl | ⟨op', k, rfl⟩
            · have hst : pStep l (sameB l) i (out, []) = none := by
                simp only [pStep, hnth]
                rw [if_neg h9, if_pos h10]; rfl
              have hw : IntKind.i64.wrap (((0 : Nat) : Int) - 1) = -1 := rfl
              have hneg : ((-1 : Int) < 0) = True := by simp
              simp only [EV, EX, hP, reduceIte, Nat.reduceEqDiff, Nat.reduceAdd, Nat.reduceSub, DR, DX, Nat.reduceMul, keysU, binA, IN, hw, hneg, decide_true, pickA, drF_eq]
              refine ⟨by kernel_rfl, ?_⟩
              refine hQ _ <| retQ_pure _ rfl rfl ⟨?_, rfl⟩
              rw [hfail hst]; rfl
            · have hki : k < i := hopi k (by simp)
              have hk : k < l.length := by omega
              have hknth := nth_get hk
              obtain ⟨vk, hvk⟩ := findB_has (sameMap_has (r := inB l) (show k < i + 1 by omega))
              obtain ⟨vi, hvi⟩ := findB_has (sameMap_has (r := inB l) (show i < i + 1 by omega))
              have hvs := findB_same hvk hvi
              have hvkb := (findB_some hvk).2
              have hvib := (findB_some hvi).2
              have fk2 := findK_bits h122 (inB_length l k) (hlen (i + 1))
              have dk2 := dvEq_bits h122 (inB_length l k) (inB_length l k)
              have fi2 := findK_bits h122 (inB_length l i) (hlen (i + 1))
              rw [ty122] at fk2 dk2 fi2
              rw [hvk] at fk2
              rw [hvi] at fi2
              have h24k : (bitD (inB l k)).length = 24 := by rw [bitD_length, inB_length]
              have htkk : (bitD (inB l k)).take 24 = bitD (inB l k) := List.take_of_length_le (by omega)
              have hw : IntKind.i64.wrap (((op' ++ [k]).length : Int) - 1) = op'.length := by
                rw [List.length_append, List.length_singleton, wrap_i64 (by simp at hop2; omega) (by simp at hop2; omega)]; omega
              have hneg : ((op'.length : Int) < 0) = False := by simp
              have hbl : (0 : Int) ≤ op'.length ∧ (op'.length : Int) < ((op' ++ [k]).length : Nat) := by rw [List.length_append, List.length_singleton]; omega
              have hbk : (0 : Int) ≤ k ∧ (k : Int) < l.length := by omega
              have hst : pStep l (sameB l) i (out, op' ++ [k]) = if (nth l k).a ≠ (nth l i).a ∨ sameB l k i = false then none else some (out.set k i, op') := by
                simp only [pStep, hnth]
                rw [if_neg h9, if_pos h10]
                simp
              by_cases hA : l[k].a = l[i].a
              · have hB : ((vk : Int) = (vi : Int)) ↔ inB l k = inB l i := by rw [← hvs]; omega
                by_cases hS : inB l k = inB l i
                · have hB := hB.2 hS
                  have hst2 : pUpto l (sameB l) (i + 1) = some (out.set k i, op') := by
                    rw [hsucc, hst, if_neg]
                    rw [hknth, hnth]; simp [hA, sameB, hS]
                  have hko : k < out.length := by omega
                  simp only [EV, EX, hP, reduceIte, Nat.reduceEqDiff, Nat.reduceAdd, Nat.reduceSub, DR, DX, Nat.reduceMul, keysU, binA, IN, MX, buildA, fillA, faddrA, load_ptr, load_fp, rowOf_eq, packA, TK.isAgg, cellsOf, cellD, boxA, allocA, storeA, putCells, Nat.reduceLeDiff, extA, hw, hneg, decide_false, iaddr_sl, elSize_eq ty94 ty3, hbl, opI_last, ty3, ty34, iaddr_fz, elSize_eq ty34 ty60, instRows_length, hbk, hb, instRows_getD hk, instRows_getD hi2, Inst.row, ty60, pickA, hA, decide_true, Bool.not_true,
                    elSize_eq ty119 ty122, insOf_length, insOf_getD hk, insOf_getD hi2, ty122, ty124, h24, h24k, htk, htkk, lkpA, dk, dk2, fk2, fi2, Option.isSome_some, if_true, Option.map_some, found, cond_false, hB, drF_eq]
                  refine ⟨by kernel_rfl, ?_⟩
                  simp only [intRows_get hko, List.set_cons_zero, intRows_set]
                  simp only [EV, EX, hP, reduceIte, Nat.reduceEqDiff, Nat.reduceAdd, Nat.reduceSub, DR, DX, Nat.reduceMul, keysU, binA, IN, MX, buildA, fillA, faddrA, load_ptr, load_fp, rowOf_eq, packA, TK.isAgg, cellsOf, cellD, boxA, allocA, storeA, putCells, Nat.reduceLeDiff, extA, drF_eq]
                  refine ⟨by kernel_rfl, ?_⟩
                  have hz0 : ((0 : Int) ≤ (op'.length : Int)) = True := by simp
                  have hz1 : (op'.length ≤ (op' ++ [k]).length) = True := by simp
                  have e2 : opI (op' ++ [k]) ++ jk = opI op' ++ ([.int .i64 (k : Nat)] :: jk) := by rw [opI_append, opI_one, List.append_assoc]; rfl
                  have hjk2 : plainR ([.int .i64 (k : Nat)] :: jk) = true := by simp [plainR, plainL, plain, hjk]
                  simp only [EV, EX, hP, reduceIte, Nat.reduceEqDiff, Nat.reduceAdd, Nat.reduceSub, binA, IN, sliceA, elSize_eq ty94 ty3, bnd, hz0, hz1, if_true, Int.toNat_natCast, Nat.zero_le, Nat.le_refl, Option.isSome_none, Bool.false_eq_true, false_implies, and_true, true_and, Nat.sub_zero, Nat.zero_add, w1]
                  rw [e2]
                  exact hN' _ (i + 1, out.set k i, op', [.int .i64 (k : Nat)] :: jk) ⟨hi2, hst2, hjk2⟩ (by simp; omega) (Sub.tell ⟨4, [], [], []⟩ hq2 rfl (hT _ op' 3 rfl rfl rfl rfl rfl rfl rfl rfl _ rfl rfl rfl rfl) (hH _ (out.set k i) op' ([.int .i64 (k : Nat)] :: jk) 3 rfl rfl rfl rfl hjk2 _ rfl rfl rfl rfl rfl))
                · have hB : ¬ ((vk : Int) = (vi : Int)) := fun x => hS (hB.1 x)
                  simp only [EV, EX, hP, reduceIte, Nat.reduceEqDiff, Nat.reduceAdd, Nat.reduceSub, DR, DX, Nat.reduceMul, keysU, binA, IN, MX, buildA, fillA, faddrA, load_ptr, load_fp, rowOf_eq, packA, TK.isAgg, cellsOf, cellD, boxA, allocA, storeA, putCells, Nat.reduceLeDiff, extA, hw, hneg, decide_false, iaddr_sl, elSize_eq ty94 ty3, hbl, opI_last, ty3, ty34, iaddr_fz, elSize_eq ty34 ty60, instRows_length, hbk, hb, instRows_getD hk, instRows_getD hi2, Inst.row, ty60, pickA, hA, decide_true, Bool.not_true,
                    elSize_eq ty119 ty122, insOf_length, insOf_getD hk, insOf_getD hi2, ty122, ty124, h24, h24k, htk, htkk, lkpA, dk, dk2, fk2, fi2, Option.isSome_some, if_true, Option.map_some, found, cond_false, hB, Bool.not_false, drF_eq]
                  refine ⟨by kernel_rfl, ?_⟩
                  refine hQ _ <| retQ_pure _ rfl rfl ⟨?_, rfl⟩
                  rw [hfail (by rw [hst, if_pos]; rw [hknth, hnth]; simp [hA, sameB, hS])]; rfl
              · simp only [EV, EX, hP, reduceIte, Nat.reduceEqDiff, Nat.reduceAdd, Nat.reduceSub, DR, DX, Nat.reduceMul, keysU, binA, IN, MX, buildA, fillA, faddrA, load_ptr, load_fp, rowOf_eq, packA, TK.isAgg, cellsOf, cellD, boxA, allocA, storeA, putCells, Nat.reduceLeDiff, extA, hw, hneg, decide_false, iaddr_sl, elSize_eq ty94 ty3, hbl, opI_last, ty3, ty34, iaddr_fz, elSize_eq ty34 ty60, instRows_length, hbk, hb, instRows_getD hk, instRows_getD hi2, Inst.row, ty60, pickA, hA, Bool.not_false, drF_eq]
                refine ⟨by kernel_rfl, ?_⟩
                refine hQ _ <| retQ_pure _ rfl rfl ⟨?_, rfl⟩
                rw [hfail (by rw [hst, if_pos]; rw [hknth, hnth]; simp [hA])]; rfl
          · have hst2 : pUpto l (sameB l) (i + 1) = some (out, op) := by
              rw [hsucc]; simp only [pStep, hnth]; rw [if_neg h9, if_neg h10]
            simp only [EV, EX, hP, reduceIte, Nat.reduceEqDiff, Nat.reduceAdd, Nat.reduceSub, binA, IN, w1]
            exact hN' _ (i + 1, out, op, jk) ⟨hi2, hst2, hjk⟩ (by simp; omega) (Sub.tell ⟨4, [], [], []⟩ hq2 rfl (hT _ op 3 rfl rfl rfl rfl rfl rfl rfl rfl _ rfl rfl rfl rfl) (hH _ out op jk 3 rfl rfl rfl rfl hjk _ rfl rfl rfl rfl rfl))
    · have hi2 : i = l.length := by omega
      subst hi2
      simp only [EV, EX, hP, reduceIte, Nat.reduceEqDiff, Nat.reduceAdd, Nat.reduceSub, binA, IN, len_sl ty94]
      refine condS_d (fun h2 => ?_) (fun h2 => ?_)
      · simp only [EV, EX, hP, reduceIte, Nat.reduceEqDiff, Nat.reduceAdd, Nat.reduceSub, binA, IN]
        refine hQ _ <| retQ_pure _ rfl rfl ⟨?_, rfl⟩
        have : pairsOf l (sameB l) = none := by
          simp only [pairsOf, hup]
          cases op with
          | nil => simp at h2
          | cons => rfl
        rw [this]; rfl
      · simp only [EV, EX, hP, reduceIte, Nat.reduceEqDiff, Nat.reduceAdd, Nat.reduceSub, binA, IN]
        have : pairsOf l (sameB l) = some out := by
          simp only [pairsOf, hup]
          cases op with
          | nil => rfl
          | cons => simp at h2
        rw [this] at hQ
        refine hQ _ ⟨⟨0, [], [], [1]⟩, [.sl 1 1 0 l.length, .bool true], [.fz 1 (intRows out), .bool true], [], rfl, Nat.le_refl _, rfl, .cons _ _ _ _ (Tl.frzAll (by simp) rfl (by simp [intRows, hout]) (intRows_plain _) ?_) (.cons _ _ _ _ (.same _ rfl) .nil), trivial, rfl, rfl⟩
        intro r hr; obtain ⟨x, _, rfl⟩ := List.mem_map.1 hr; rfl
end Go.Fv
/- CONTRACTS: shape.May. -/
namespace Go.Fv
open Go.Proofs

def bits0 : List Bool := List.replicate 24 false
/-- A mark at i stands in no piece, and in no pair. -/
def markOk (l : List Inst) (ps : List Int) (i : Nat) : Bool := !decide ((nth l i).op = 11) || (decide (inB l i = bits0) && !(ps.take i).any fun e => decide ((i : Int) < e))
def shapeMay (l : List Inst) : Bool :=
  decide (1 ≤ l.length ∧ l.length ≤ 24) && l.all Inst.may && decide (idxOf (fun x : Inst => decide (x.op = 0)) l = (l.length : Int) - 1) && nestOk l && match pairsOf l (sameB l) with
    | none => false
    | some ps => (List.range l.length).all (markOk l ps)

theorem s_may1 (x : Inst) : Pure Try.prog 86 [.agg x.row] (.bool (!x.may)) := by
  refine Spec.walk ok86 fun C Q hP hN hQ => ?_
  unfold c86
  have hm := s_codeMay x
  obtain ⟨a, b, c, d⟩ := x
  simp only [EV, EX, hP, reduceIte, Nat.reduceEqDiff, Nat.reduceAdd, Nat.reduceSub, binA, IN, MX, buildA, fillA, faddrA, load_ptr, load_fp, rowOf_eq, packA, TK.isAgg, cellsOf, cellD, boxA, allocA, storeA, putCells, Nat.reduceLeDiff, extA, Inst.row, ty60, ty3]
  refine callW_pure hP hm rfl rfl ?_
  simp only [EV, EX, hP, reduceIte, Nat.reduceEqDiff, Nat.reduceAdd, Nat.reduceSub, unA]
  exact hQ _ <| retQ_pure _ rfl rfl ⟨rfl, rfl⟩

theorem s_may2 (x : Inst) : Pure Try.prog 89 [.agg x.row] (.bool (decide (x.op = 0))) := by
  refine Spec.walk ok89 fun C Q hP hN hQ => ?_
  unfold c89
  obtain ⟨a, b, c, d⟩ := x
  simp only [EV, EX, hP, reduceIte, Nat.reduceEqDiff, Nat.reduceAdd, Nat.reduceSub, binA, IN, MX, buildA, fillA, faddrA, load_ptr, load_fp, rowOf_eq, packA, TK.isAgg, cellsOf, cellD, boxA, allocA, storeA, putCells, Nat.reduceLeDiff, extA, Inst.row, ty60, ty3]
  exact hQ _ <| retQ_pure _ rfl rfl ⟨rfl, rfl⟩

theorem s_may3 (e i : Int) : Pure Try.prog 93 ([.int .i64 e] ++ [.fp [.int .i64 i]]) (.bool (decide (i < e))) := by
  refine Spec.walk ok93 fun C Q hP hN hQ => ?_
  unfold c93
  simp only [EV, EX, hP, reduceIte, Nat.reduceEqDiff, Nat.reduceAdd, Nat.reduceSub, binA, IN, MX, buildA, fillA, faddrA, load_ptr, load_fp, rowOf_eq, packA, TK.isAgg, cellsOf, cellD, boxA, allocA, storeA, putCells, Nat.reduceLeDiff, extA, ty3]
  exact hQ _ <| retQ_pure _ rfl rfl ⟨rfl, rfl⟩

theorem s_locks1 (x : Inst) : Pure Try.prog 94 [.agg x.row] (.bool (decide (x.op = 9))) := by
  refine Spec.walk ok94 fun C Q hP hN hQ => ?_
  unfold c94
  obtain ⟨a, b, c, d⟩ := x
  simp only [EV, EX, hP, reduceIte, Nat.reduceEqDiff, Nat.reduceAdd, Nat.reduceSub, binA, IN, MX, buildA, fillA, faddrA, load_ptr, load_fp, rowOf_eq, packA, TK.isAgg, cellsOf, cellD, boxA, allocA, storeA, putCells, Nat.reduceLeDiff, extA, Inst.row, ty60, ty3]
  exact hQ _ <| retQ_pure _ rfl rfl ⟨rfl, rfl⟩

theorem pairsD_plain (r : Option (List Int)) : plain (pairsD r) = true := by
  cases r with
  | none => rfl
  | some out => simp only [pairsD, plain, plainL, intRows_plain, Bool.and_self]

set_option maxRecDepth 100000 in
theorem s_shapeMay (l : List Inst) (hl : l.length ≤ maxL) : Pure Try.prog 63 [.fz 4 (instRows l)] (.bool (shapeMay l)) := by
  refine Spec.walk ok63 fun C Q hP hN hQ => ?_
  unfold c63
  simp only [EV, EX, hP, reduceIte, Nat.reduceEqDiff, Nat.reduceAdd, Nat.reduceSub, binA, IN, len_fz ty34, instRows_length]
  by_cases h1 : 1 ≤ l.length ∧ l.length ≤ 24
  · have n1 : ¬ ((l.length : Int) < 1) := by omega
    have n2 : ¬ ((24 : Int) < l.length) := by omega
    have w1 : IntKind.i64.wrap ((l.length : Int) - 1) = l.length - 1 := wrap_i64 (by omega) (by omega)
    simp only [EV, EX, hP, reduceIte, Nat.reduceEqDiff, Nat.reduceAdd, Nat.reduceSub, binA, IN, len_fz ty34, instRows_length, n1, n2, decide_false, pickA]
    refine callW_clo (caps := []) hP (s_hasInsts l hl _ [] (fun x => !x.may) rfl (fun x _ => s_may1 x)) (by simp [plainL, plain, instRows_plain]) rfl ?_
    simp only [EV, EX, hP, reduceIte, Nat.reduceEqDiff, Nat.reduceAdd, Nat.reduceSub, binA, IN, pickA]
    refine condS_i (fun h2 => ?_) (fun h2 => ?_)
    · simp only [EV, EX, hP, reduceIte, Nat.reduceEqDiff, Nat.reduceAdd, Nat.reduceSub, binA, IN]
      refine hQ _ <| retQ_pure _ rfl rfl ⟨?_, rfl⟩
      have : l.all Inst.may = false := by rw [← Bool.not_eq_true, List.all_eq_not_any_not, h2]; simp
      simp [retV, shapeMay, this]
    · have hx : ∀ x ∈ l, x.may = true := fun x hx => by simpa using List.any_eq_false.1 h2 x hx
      have hall : l.all Inst.may = true := List.all_eq_true.2 hx
      simp only [EV, EX, hP, reduceIte, Nat.reduceEqDiff, Nat.reduceAdd, Nat.reduceSub, binA, IN]
      refine callW_clo (caps := []) hP (s_idxInsts l hl _ [] (fun x => decide (x.op = 0)) rfl (fun x _ => s_may2 x)) (by simp [plainL, plain, instRows_plain]) rfl ?_
      simp only [EV, EX, hP, reduceIte, Nat.reduceEqDiff, Nat.reduceAdd, Nat.reduceSub, binA, IN, len_fz ty34, instRows_length, w1]
      by_cases h3 : idxOf (fun x : Inst => decide (x.op = 0)) l = (l.length : Int) - 1
      · simp only [EV, EX, hP, reduceIte, Nat.reduceEqDiff, Nat.reduceAdd, Nat.reduceSub, binA, IN, h3, decide_true, Bool.not_true]
        refine callW_pure hP (s_nested l h1.2 hx) (by simp [plainL, plain, instRows_plain]) rfl ?_
        simp only [EV, EX, hP, reduceIte, Nat.reduceEqDiff, Nat.reduceAdd, Nat.reduceSub, binA, IN, unA, pickA]
        refine condS_i (fun h4 => ?_) (fun h4 => ?_)
        · simp only [EV, EX, hP, reduceIte, Nat.reduceEqDiff, Nat.reduceAdd, Nat.reduceSub, binA, IN]
          refine hQ _ <| retQ_pure _ rfl rfl ⟨?_, rfl⟩
          have h4 : nestOk l = false := by simpa using h4
          simp [retV, shapeMay, h4]
        · have h4 : nestOk l = true := by simpa using h4
          simp only [EV, EX, hP, reduceIte, Nat.reduceEqDiff, Nat.reduceAdd, Nat.reduceSub, binA, IN]
          refine callW_pure hP (s_pairs l h1.2 hx) (by simp [plainL, plain, instRows_plain]) (pairsD_plain _) ?_
          cases hp : pairsOf l (sameB l) with
          | none =>
            simp only [EV, EX, hP, reduceIte, Nat.reduceEqDiff, Nat.reduceAdd, Nat.reduceSub, binA, IN, pairsD, extA, List.getElem?_cons_zero, List.getElem?_cons_succ, unA, Bool.not_false]
            refine hQ _ <| retQ_pure _ rfl rfl ⟨?_, rfl⟩
            simp [retV, shapeMay, hp]
          | some ps =>
            simp only [EV, EX, hP, reduceIte, Nat.reduceEqDiff, Nat.reduceAdd, Nat.reduceSub, binA, IN, pairsD, extA, List.getElem?_cons_zero, List.getElem?_cons_succ, unA, Bool.not_true]
            refine callW_pure hP (s_ins l h1.2 hx) (by simp [plainL, plain, instRows_plain]) (by simp only [plain, insOf_plain]) ?_
            simp only [EV, EX, hP, reduceIte, Nat.reduceEqDiff, Nat.reduceAdd, Nat.reduceSub, binA, IN, len_fz ty34, instRows_length]
            have hspec : shapeMay l = (List.range l.length).all (markOk l ps) := by simp [shapeMay, hp, h1, hall, h3, h4]
            have hpl : ps.length = l.length := by
              unfold pairsOf at hp
              split at hp
              · rename_i out hu
                cases hp
                exact (pUpto_ok (Nat.le_refl _) hu).1
              · cases hp
            refine LoopW.by (fun i => ⟨[(44, some (.int .i64 (i : Nat))), (43, some (.int .i64 l.length)), (42, some (.fz 4 (instRows l))), (6, some (.fz 24 (insOf l))), (4, some (.fz 1 (intRows ps)))], [], 0⟩) (fun i => i ≤ l.length ∧ (List.range i).all (markOk l ps) = true) (fun i => l.length - i) 0 ⟨Nat.zero_le _, rfl⟩ ?_ ?_
            · refine Sub.pl 0 hN (Nat.zero_le _) (Nat.zero_le _) ?_
              simp only [plT, EV, EX, hP, reduceIte, Nat.reduceEqDiff, Nat.reduceAdd, Nat.reduceSub, plain, instRows_plain, insOf_plain, intRows_plain, and_true, true_and]
              rfl
            · rintro i ⟨hi, hall2⟩ N hN'
              simp only [EV, EX, hP, reduceIte, Nat.reduceEqDiff, Nat.reduceAdd, Nat.reduceSub, binA, IN]
              refine condS_d (fun h => ?_) (fun h => ?_)
              · have hi2 : i < l.length := by omega
                have hb : (0 : Int) ≤ i ∧ (i : Int) < l.length := by omega
                have w2 : IntKind.i64.wrap ((i : Int) + 1) = i + 1 := wrap_i64 (by omega) (by omega)
                have hnx : ∀ S, markOk l ps i = true → S.get 44 = some (.int .i64 ((i : Int) + 1)) → S.get 43 = some (.int .i64 l.length) → S.get 42 = some (.fz 4 (instRows l)) → S.get 6 = some (.fz 24 (insOf l)) → S.get 4 = some (.fz 1 (intRows ps)) → N S := by
                  intro S hm g1 g2 g3 g4 g5
                  refine hN' _ (i + 1) ⟨hi2, ?_⟩ (by omega) (Sub.pl 0 hN (Nat.zero_le _) (Nat.zero_le _) ?_)
                  · rw [List.range_succ, List.all_append, hall2]; simp [hm]
                  · simp only [plT, plain, instRows_plain, insOf_plain, intRows_plain, and_true, true_and, g1, g2, g3, g4, g5]
                    rfl
                simp only [EV, EX, hP, reduceIte, Nat.reduceEqDiff, Nat.reduceAdd, Nat.reduceSub, binA, IN, MX, buildA, fillA, faddrA, load_ptr, load_fp, rowOf_eq, packA, TK.isAgg, cellsOf, cellD, boxA, allocA, storeA, putCells, Nat.reduceLeDiff, extA, iaddr_fz, elSize_eq ty34 ty60, instRows_length, hb, instRows_getD hi2, Inst.row, ty60, ty3]
                refine condS_i (fun h5 => ?_) (fun h5 => ?_)
                · have h5 : ¬ l[i].op = 11 := by simpa using h5
                  simp only [EV, EX, hP, reduceIte, Nat.reduceEqDiff, Nat.reduceAdd, Nat.reduceSub, binA, IN, w2]
                  exact hnx _ (by simp [markOk, nth_get hi2, h5]) rfl rfl rfl rfl rfl
                · have h5 : l[i].op = 11 := by simpa using h5
                  have h122 : flatT (tiOf Try.prog 122) = some (List.replicate 24 true) := by rw [ty122]; rfl
                  have hne : binA (tiOf Try.prog) .neq 122 (some (.agg (bitD (inB l i)))) (some (.agg (bitD bits0))) = some (.bool (!decide (inB l i = bits0))) := by
                    show eqA (tiOf Try.prog 122) .neq _ _ = _
                    simp only [eqA, h122, kinds_bits 24 _ (inB_length l i), kinds_bits 24 bits0 rfl, Bool.and_self, if_true, lsEq_bits (inB l i) bits0 (by rw [inB_length]; rfl)]
                  have h24 : (bitD (inB l i)).length = 24 := by rw [bitD_length, inB_length]
                  have htk : (bitD (inB l i)).take 24 = bitD (inB l i) := List.take_of_length_le (by omega)
                  have hz : buildA (tiOf Try.prog) 122 [] = some (.agg (bitD bits0)) := by simp only [buildA, ty122, ty4, fillA]; rfl
                  simp only [EV, EX, hP, reduceIte, Nat.reduceEqDiff, Nat.reduceAdd, Nat.reduceSub, iaddr_fz, elSize_eq ty119 ty122, insOf_length, hb, and_self, if_true, Int.toNat_natCast, insOf_getD hi2, load_fp, load_ptr, rowOf_eq, blk_mk, packA, TK.isAgg, List.getElem?_cons_zero, List.drop_zero, ty122, ty3, h24, htk, Nat.le_refl, hz, hne]
                  refine gdS_f (fun h6 => ?_) (fun h6 => ?_)
                  · have h6 : inB l i = bits0 := by simpa using h6
                    have hz0 : ((0 : Int) ≤ (i : Int)) = True := by simp
                    have hz1 : (i ≤ l.length) = True := by simp; omega
                    simp only [EV, EX, hP, reduceIte, Nat.reduceEqDiff, Nat.reduceAdd, Nat.reduceSub, MX, buildA, fillA, faddrA, load_ptr, load_fp, rowOf_eq, packA, TK.isAgg, cellsOf, cellD, boxA, allocA, storeA, putCells, Nat.reduceLeDiff, extA, h6, decide_true, Bool.not_true, ty3, sliceA, elSize_eq ty94 ty3, bnd, hz0, hz1, if_true, intRows_length, hpl, Nat.zero_le, Nat.le_refl, Option.isSome_none, Bool.false_eq_true, false_implies, and_true, true_and, mkfnA]
                    have hdr : ((intRows ps).take i).drop 0 = intRows (ps.take i) := by simp [intRows, List.map_take]
                    simp only [List.drop_zero] at hdr
                    rw [hdr]
                    refine callW_look hP (s_hasInts (ps.take i) (by simp [maxL]; omega) _ _ (fun e => decide ((i : Int) < e)) rfl (fun x _ => s_may3 x i)) (by rintro d U ⟨rfl, _⟩; rfl) [64] (.cons _ _ _ _ (.same _ (by simp only [plain, intRows_plain])) (.cons _ _ _ _ (.fn _ _ _ _ _ rfl rfl (by simp) ?_) .nil)) ?_
                    · intro j x y hx hy
                      match j with
                      | 0 => cases hx; cases hy; exact Tl.cell (by simp) rfl rfl
                      | j + 1 => simp at hx
                    · rintro d U ⟨rfl, _⟩
                      simp only [EV, EX, hP, reduceIte, Nat.reduceEqDiff, Nat.reduceAdd, Nat.reduceSub, binA, IN, pickA, w2]
                      refine condS_i (fun h7 => ?_) (fun h7 => ?_)
                      · simp only [EV, EX, hP, reduceIte, Nat.reduceEqDiff, Nat.reduceAdd, Nat.reduceSub, binA, IN]
                        refine hQ _ <| retQ_pure _ rfl rfl ⟨?_, rfl⟩
                        rw [hspec]
                        simp only [retV]
                        congr 1
                        rw [eq_comm, List.all_eq_false]
                        exact ⟨i, by simpa using hi2, by simp [markOk, nth_get hi2, h5, h7]⟩
                      · simp only [EV, EX, hP, reduceIte, Nat.reduceEqDiff, Nat.reduceAdd, Nat.reduceSub, binA, IN, w2]
                        exact hnx _ (by simp [markOk, nth_get hi2, h5, h6, h7]) rfl rfl rfl rfl rfl
                  · have h6 : ¬ inB l i = bits0 := by simpa using h6
                    simp only [EV, EX, hP, reduceIte, Nat.reduceEqDiff, Nat.reduceAdd, Nat.reduceSub, h6, decide_false, Bool.not_false, pickA]
                    refine hQ _ <| retQ_pure _ rfl rfl ⟨?_, rfl⟩
                    rw [hspec]
                    simp only [retV]
                    congr 1
                    rw [eq_comm, List.all_eq_false]
                    exact ⟨i, by simpa using hi2, by simp [markOk, nth_get hi2, h5, h6]⟩
              · have hi2 : i = l.length := by omega
                subst hi2
                simp only [EV, EX, hP, reduceIte, Nat.reduceEqDiff, Nat.reduceAdd, Nat.reduceSub, binA, IN]
                refine hQ _ <| retQ_pure _ rfl rfl ⟨?_, rfl⟩
                rw [hspec, hall2]; rfl
      · simp only [EV, EX, hP, reduceIte, Nat.reduceEqDiff, Nat.reduceAdd, Nat.reduceSub, binA, IN, h3, decide_false, Bool.not_false, pickA]
        refine hQ _ <| retQ_pure _ rfl rfl ⟨?_, rfl⟩
        simp [retV, shapeMay, h3]
  · by_cases h2 : l.length < 1
    · have n1 : (l.length : Int) < 1 := by omega
      simp only [EV, EX, hP, reduceIte, Nat.reduceEqDiff, Nat.reduceAdd, Nat.reduceSub, binA, IN, n1, decide_true, pickA]
      refine hQ _ <| retQ_pure _ rfl rfl ⟨?_, rfl⟩
      simp [retV, shapeMay, h1]
    · have n1 : ¬ (l.length : Int) < 1 := by omega
      have n2 : (24 : Int) < l.length := by omega
      simp only [EV, EX, hP, reduceIte, Nat.reduceEqDiff, Nat.reduceAdd, Nat.reduceSub, binA, IN, n1, n2, decide_true, decide_false, len_fz ty34, instRows_length, pickA]
      refine hQ _ <| retQ_pure _ rfl rfl ⟨?_, rfl⟩
      simp [retV, shapeMay, h1]
end Go.Fv
/- PLAIN: what a code costs, as the program reckons it. -/
namespace Go.Fv

structure Cost where
  all : Int
  piece : Int
  spans : List (Int × Int)
def spanRows (l : List (Int × Int)) : List (List DV) := l.map fun x => [.int .i64 x.1, .int .i64 x.2]
theorem spanRows_plain (l : List (Int × Int)) : plainR (spanRows l) = true := plainR_map fun _ => rfl
theorem spanRows_length (l : List (Int × Int)) : (spanRows l).length = l.length := by simp [spanRows]
theorem spanRows_append (a b : List (Int × Int)) : spanRows (a ++ b) = spanRows a ++ spanRows b := by simp [spanRows]
theorem spanRows_rows (l : List (Int × Int)) : ∀ r ∈ spanRows l, r.length = 2 := by intro r hr; obtain ⟨x, _, rfl⟩ := List.mem_map.1 hr; rfl
theorem spanRows_getD {l : List (Int × Int)} {i : Nat} (h : i < l.length) : (spanRows l).getD i [] = [.int .i64 l[i].1, .int .i64 l[i].2] := getD_map _ _ _ _ h
def Cost.dv (c : Cost) : DV := .agg [.int .i64 c.all, .int .i64 c.piece, .fz 2 (spanRows c.spans)]
theorem Cost.dv_plain (c : Cost) : plain c.dv = true := by simp only [Cost.dv, plain, plainL, spanRows_plain, Bool.and_self]
def costD : Option Cost → DV
  | some c => .tup [c.dv, .bool true]
  | none => .tup [.agg [.int .i64 0, .int .i64 0, .fz 2 []], .bool false]
theorem costD_plain (c : Option Cost) : plain (costD c) = true := by
  cases c with
  | none => rfl
  | some c => simp only [costD, plain, plainL, Cost.dv_plain, Bool.and_self]

def between (ts : List Int) (a b : Nat) : Int := satSum ((ts.take b).drop a)

def costUpto (l : List Inst) (ts ps : List Int) : Nat → Int × Nat × List (Int × Int)
  | 0 => (0, 0, [])
  | i + 1 =>
    let s := costUpto l ts ps i
    if (nth l i).op = 11 ∨ (nth l i).op = 0 then (max s.1 (between ts s.2.1 (i + 1)), i + 1, s.2.2)
    else if (nth l i).op = 9 then (s.1, s.2.1, s.2.2 ++ [((nth l i).a, (between ts (i + 1) ((ps.getD i 0).toNat + 1)).tdiv (ts.getD i 0))])
    else s
def costP (l : List Inst) : Option Cost :=
  if shapeMay l = true then
    match pairsOf l (sameB l) with
    | some ps => let s := costUpto l (costTimes l) ps l.length; some ⟨satSum (costTimes l), s.1, s.2.2⟩
    | none => none
  else none

theorem satAdd_nonneg {a b : Int} (ha : 0 ≤ a) (hb : 0 ≤ b) : 0 ≤ (satAdd a b).1 := by
  unfold satAdd
  split
  · simp
  · split
    · omega
    · simp only; omega
theorem satSum_nonneg {ns : List Int} (h : ∀ n ∈ ns, 0 ≤ n) : 0 ≤ satSum ns := by
  have : ∀ (ns : List Int) (s : Int), 0 ≤ s → (∀ n ∈ ns, 0 ≤ n) → 0 ≤ ns.foldl (fun s n => (satAdd s n).1) s := by
    intro ns
    induction ns with
    | nil => intro s hs _; exact hs
    | cons n ns ih => intro s hs hn; exact ih _ (satAdd_nonneg hs (hn n (by simp))) fun m hm => hn m (by simp [hm])
  exact this ns 0 (by omega) h
theorem between_i64 (ts : List Int) (a b : Nat) : i64r (between ts a b) := satSum_i64 _
theorem between_nonneg {ts : List Int} (h : ∀ n ∈ ts, 1 ≤ n) (a b : Nat) : 0 ≤ between ts a b :=
  satSum_nonneg fun n hn => by have := h n (List.mem_of_mem_take (List.mem_of_mem_drop hn)); omega

theorem satMul_pos {a b : Int} (ha : 1 ≤ a) (hb : 1 ≤ b) : 1 ≤ (satMul a b).1 := by
  have hp : 1 ≤ a * b := by
    have := Int.mul_le_mul ha hb (by omega) (by omega); omega
  unfold satMul
  split
  · simp
  · split
    · omega
    · simp only; exact hp
theorem tm_pos {l : List Inst} (hx : ∀ x ∈ l, x.may = true) (k : Nat) : ∀ i, i ≤ l.length → 1 ≤ tmUpto l i k
  | 0, _ => by simp [tmUpto]
  | i + 1, h => by
    rw [tmUpto_succ (by omega)]
    have ih := tm_pos hx k i (by omega)
    split
    · rename_i h8
      refine satMul_pos ih ?_
      have hm := hx l[i] (List.getElem_mem (by omega))
      have : 1 ≤ l[i].b ∧ 1 ≤ l[i].n := by simp [Inst.may, h8.1, btw] at hm; omega
      exact this.2
    · exact ih
theorem costTimes_pos {l : List Inst} (hx : ∀ x ∈ l, x.may = true) : ∀ n ∈ costTimes l, 1 ≤ n := by
  intro n hn
  obtain ⟨k, _, rfl⟩ := List.mem_map.1 hn
  exact tm_pos hx k _ (Nat.le_refl _)
theorem costTimes_length (l : List Inst) : (costTimes l).length = l.length := by simp [costTimes]
theorem costTimes_i64 (l : List Inst) : ∀ n ∈ costTimes l, i64r n := by
  intro n hn
  obtain ⟨k, _, rfl⟩ := List.mem_map.1 hn
  exact tm_i64 _ k (Nat.le_refl _)

theorem nest_rep {l : List Inst} (h : nestOk l = true) : RepIn l := by
  intro i x hx h8
  unfold nestOk at h
  rw [Bool.and_eq_true] at h
  have hm : (⟨(i : Int) + 1, (i : Int) + x.b, i, true⟩ : Area) ∈ areasOf l := by
    unfold areasOf
    refine List.mem_flatMap.2 ⟨(x, i), List.mem_zipIdx_iff_getElem?.2 hx, ?_⟩
    simp only [areaAt]
    rw [if_neg (by omega), if_pos h8]; simp
  have := List.all_eq_true.1 h.1 _ hm
  rw [Bool.and_eq_true] at this
  have := this.1
  simp only [decide_eq_true_eq] at this
  omega

theorem shapeMay_inv {l : List Inst} (h : shapeMay l = true) : (1 ≤ l.length ∧ l.length ≤ 24) ∧ (∀ x ∈ l, x.may = true) ∧ idxOf (fun x : Inst => decide (x.op = 0)) l = (l.length : Int) - 1 ∧ nestOk l = true ∧
    ∃ ps, pairsOf l (sameB l) = some ps ∧ (List.range l.length).all (markOk l ps) = true := by
  unfold shapeMay at h
  simp only [Bool.and_eq_true, decide_eq_true_eq] at h
  obtain ⟨⟨⟨⟨h1, h2⟩, h3⟩, h4⟩, h5⟩ := h
  refine ⟨h1, List.all_eq_true.1 h2, h3, h4, ?_⟩
  cases hp : pairsOf l (sameB l) with
  | none => rw [hp] at h5; cases h5
  | some ps => rw [hp] at h5; exact ⟨ps, rfl, h5⟩

/-- Each that is locked is open, or its pair stands behind it. -/
theorem pUpto_locks {l : List Inst} {same : Nat → Nat → Bool} : ∀ {i : Nat} {out : List Int} {op : List Nat}, i ≤ l.length → pUpto l same i = some (out, op) →
    ∀ k, k < i → (nth l k).op = 9 → k ∈ op ∨ ((k : Int) < out.getD k 0 ∧ out.getD k 0 < i)
  | 0, out, op, _, _, k, hk, _ => by omega
  | i + 1, out, op, hi, h, k, hk, h9 => by
    simp only [pUpto, Option.bind_eq_some_iff] at h
    obtain ⟨⟨out0, op0⟩, h1, h2⟩ := h
    have ih := pUpto_locks (show i ≤ l.length by omega) h1 k
    obtain ⟨g1, g2, g3, g4⟩ := pUpto_ok (show i ≤ l.length by omega) h1
    unfold pStep at h2
    split at h2
    · split at h2
      · cases h2
      · cases h2
        by_cases e : k = i
        · subst e; exact .inl (by simp)
        · rcases ih (by omega) h9 with h3 | h3
          · exact .inl (List.mem_append_left _ h3)
          · exact .inr ⟨h3.1, Int.lt_trans h3.2 (by omega)⟩
    · rename_i hn9
      have hki : k ≠ i := by rintro rfl; exact hn9 h9
      split at h2
      · split at h2
        · cases h2
        · rename_i k0 hl
          split at h2
          · cases h2
          · cases h2
            have hk0 : k0 < i := g3 k0 (List.mem_of_getLast? hl)
            by_cases e : k = k0
            · subst e
              refine .inr ?_
              have hlt : k < out0.length := by omega
              have e1 : (out0.set k (i : Int)).getD k 0 = i := by
                rw [List.getD_eq_getElem?_getD, List.getElem?_set_self hlt]; rfl
              rw [e1]
              omega
            · rcases ih (by omega) h9 with h3 | h3
              · left
                have hne : op0 ≠ [] := by rintro rfl; simp at hl
                rw [← List.dropLast_concat_getLast hne] at h3
                rcases List.mem_append.1 h3 with h4 | h4
                · exact h4
                · rw [List.getLast?_eq_some_getLast hne] at hl
                  simp only [List.mem_singleton] at h4
                  cases hl
                  exact absurd h4 e
              · refine .inr ?_
                simp only [List.getD_eq_getElem?_getD, List.getElem?_set] at h3 ⊢
                rw [if_neg (fun x => e x.symm)]
                exact ⟨h3.1, Int.lt_trans h3.2 (by omega)⟩
      · cases h2
        rcases ih (by omega) h9 with h3 | h3
        · exact .inl h3
        · exact .inr ⟨h3.1, Int.lt_trans h3.2 (by omega)⟩

theorem pairs_at {l : List Inst} {same : Nat → Nat → Bool} {ps : List Int} (h : pairsOf l same = some ps) : ps.length = l.length ∧ (∀ k, k < l.length → (nth l k).op = 9 → (k : Int) < ps.getD k 0 ∧ ps.getD k 0 < l.length) := by
  unfold pairsOf at h
  split at h
  · rename_i out hu
    cases h
    refine ⟨(pUpto_ok (Nat.le_refl _) hu).1, fun k hk h9 => ?_⟩
    rcases pUpto_locks (Nat.le_refl _) hu k hk h9 with h3 | h3
    · cases h3
    · exact h3
  · cases h

theorem costUpto_from {l : List Inst} {ts ps : List Int} : ∀ i, (costUpto l ts ps i).2.1 ≤ i
  | 0 => Nat.le_refl _
  | i + 1 => by
    have := costUpto_from (l := l) (ts := ts) (ps := ps) i
    simp only [costUpto]
    split
    · exact Nat.le_refl _
    · split
      · simp only; omega
      · omega
theorem costUpto_spans {l : List Inst} {ts ps : List Int} : ∀ i, (costUpto l ts ps i).2.2.length ≤ i
  | 0 => Nat.le_refl _
  | i + 1 => by
    have := costUpto_spans (l := l) (ts := ts) (ps := ps) i
    simp only [costUpto]
    split
    · simp only; omega
    · split
      · simp only [List.length_append, List.length_singleton]; omega
      · omega
end Go.Fv
