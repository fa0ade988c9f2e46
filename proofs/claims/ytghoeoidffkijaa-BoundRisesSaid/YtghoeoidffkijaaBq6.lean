/- The law BoundRises holds for every input: for any arguments that can be read as data the call returns true, and what was there before is as it was. Made by program (wip/gen/row.py) out of the contract of the law. -/
import Derived.Test.YtghoeoidffkijaaRows
import Derived.WalkKit
import Derived.ProofKit
import Derived.OpenShut
import Derived.ChangeOld
import Derived.Below
import Derived.Carry
import Derived.SizedLaws
import Derived.Test.YtghoeoidffkijaaBq5
set_option linter.unusedSimpArgs false
set_option linter.unusedVariables false
namespace Go.Proofs.Ytghoeoidffkijaa.boundRises
open Go.ChangeShapes Go.WideShapes Go.ChangeAt Go.RowKit
theorem own : ownKnob Try.prog.godebug = none := by kernel_rfl
theorem laidOut : laidOutB Try.prog = true := by kernel_rfl
set_option maxRecDepth 100000 in
theorem lifted (os : Os) (started : os.Started) (H : Type) (enc : TypeId × Value → H) :
    ReturnsInHanded {} Try.checked os 5 .any (Rows.boundRisesSpec.pre6 enc Try.prog Try.f5 Rows.boundRisesRow.domain false) (Rows.boundRisesSpec.post enc Try.prog Try.f5 false true false false) := by
  refine returnsInHanded_of_change_sized (C := Try.checked) own started (by kernel_rfl) Try.func5
    (ChangeSpec.witness6 (enc := enc) (C := Try.checked) false ⟨#[], #[.slice none 0 0, .int .u8 0, .int .u8 0], []⟩ 8 (by kernel_rfl) (by kernel_rfl) (by kernel_rfl) (by kernel_rfl)) ?_
  intro W base args ds gs before hval0 hW hcnd hsz _
  have hval : ∀ (j : Nat) t v, Try.f5.params[j]? = some t → args[j]? = some v → Value.okWide Try.prog W .any base t v := hval0
  have hW' := hW
  obtain ⟨p, q, hA0, hV, rfl, hfz, hnd⟩ := hW
  have hA : DataW.TrodAll enc Try.prog W 0 (fun _ => true) true Try.f5.params.toList args.toList ds p := hA0
  rw [Try.params5] at hA hval hsz
  obtain ⟨v0, vs0, d0, ds0, p0, q0, hargs, rfl, rfl, h0, r0⟩ := trodAll_cons hA
  obtain ⟨v1, vs1, d1, ds1, p1, q1, rfl, rfl, rfl, h1, r1⟩ := trodAll_cons r0
  obtain ⟨v2, vs2, d2, ds2, p2, q2, rfl, rfl, rfl, h2, r2⟩ := trodAll_cons r1
  obtain ⟨rfl, rfl, rfl⟩ := trodAll_nil r2
  obtain rfl : args = #[v0, v1, v2] := by cases args; simp_all
  obtain ⟨rfl, rfl⟩ := trodVars_none hV
  have o0 : Value.okWide Try.prog W .any base 22 v0 := hval 0 22 v0 rfl rfl
  obtain ⟨x0, len0, cap0, rfl⟩ := okWide_slice Try.underlying22 o0
  have k0 := h0
  have lt0 : ∀ x ∈ p0, x.block < W.heap.size := by obtain ⟨m, hm⟩ := k0; exact DataW.trod_lt m _ _ _ hm
  have y0 : ∃ zs : List Int, (∀ z ∈ zs, 0 ≤ z ∧ z ≤ 255) ∧ zs.length = len0 ∧ len0 ≤ Go.Fv.maxL ∧ Go.Fv.In W (.slice x0 len0 cap0) (.fz 1 (Go.Fv.rowsK .u8 zs)) := by
    obtain ⟨fuel, hf⟩ := h0
    rcases open_ints Try.underlying22 Try.underlying5 (by kernel_rfl) hf with ⟨hcs, _⟩ | ⟨x, l, c, zs, hcs, _, hl, hm, hz, hx, hcell, hwz⟩
    · simp [Value.cells] at hcs
      obtain ⟨rfl, rfl, rfl⟩ := hcs
      exact ⟨[], by simp, rfl, by decide, Go.Fv.In.ints (zs := []) (.inl ⟨rfl, rfl, rfl, rfl⟩)⟩
    · simp [Value.cells] at hcs
      obtain ⟨rfl, rfl, rfl⟩ := hcs
      have hz2 : zs.length = cap0 := by simpa using hz
      obtain ⟨rfl, rfl⟩ := Prod.mk.inj hx
      have hs := sized_slice hsz (j := 0) (t := 22) (e := 5) rfl rfl Try.underlying22
      rw [show Try.checked.prog.bytesOf 5 = 1 by kernel_rfl, Nat.mul_one] at hs
      simp only [lits, List.length_map, List.length_take, List.length_drop] at hs
      have hmx : cap0 ≤ Go.Fv.maxL := by
        have e1 : reachBytes = 140737488351232 := by decide
        have e2 : Go.Fv.maxL = 281474976710656 := rfl
        omega
      have hsp : x.spot = none ∧ x.block < W.heap.size := by
        simp only [Value.okWide, Try.underlying22, Cell.okWide, Cell.ok, World.has] at o0
        obtain ⟨_, _, _, hs, row, cells, hsh, _⟩ := o0
        refine ⟨hs, ?_⟩
        unfold World.shape? at hsh
        cases hb : W.heap[x.block]? with
        | none => rw [hb] at hsh; cases hsh
        | some ob => exact (Array.getElem?_eq_some_iff.1 hb).1
      refine ⟨zs.take len0, fun z hzm => ?_, by rw [List.length_take]; omega, Nat.le_trans hl hmx, Go.Fv.In.ints (.inr ⟨x, rfl, hl, hmx, hz2, hsp.1, hsp.2, hcell⟩)⟩
      have := hwz z (List.mem_of_mem_take hzm)
      have : IntKind.u8.min ≤ z ∧ z ≤ IntKind.u8.max := by simpa [Lit.wf] using this
      exact this
  obtain ⟨zs0, hb0, hlen0, hmx0, hin0⟩ := y0
  obtain ⟨a1, rfl, rfl, rfl, w1⟩ := open_int Try.underlying5 (hval 1 5 v1 rfl rfl) h1
  have b1 : IntKind.u8.min ≤ a1 ∧ a1 ≤ IntKind.u8.max := by simpa [Lit.wf] using w1
  obtain ⟨a2, rfl, rfl, rfl, w2⟩ := open_int Try.underlying5 (hval 2 5 v2 rfl rfl) h2
  have b2 : IntKind.u8.min ≤ a2 ∧ a2 ≤ IntKind.u8.max := by simpa [Lit.wf] using w2
  clear hA0 hval0
  refine (Go.Fv.law_calls (Go.Fv.s_BoundRises zs0 ⟨by rw [hlen0]; exact hmx0, hb0⟩ a1 b1 a2 b2) (Go.Fv.Came.snoc (Go.Fv.Came.snoc (Go.Fv.Came.snoc Go.Fv.Came.nil hin0) (Go.Fv.In.int .u8 a1)) (Go.Fv.In.int .u8 a2))).mono fun e W' ⟨he, bel⟩ => ?_
  subst he
  exact ⟨_, rfl, _, _, _, [], _, [], hW', trodAll_mk1 (shut_bool Try.underlying4 _), (trodAll_cons_mk (Below.trod laidOut (by kernel_rfl) (of_decide_eq_true (by kernel_rfl)) k0 bel lt0) (trodAll_cons_mk (shut_int Try.underlying5 w1) (trodAll_cons_mk (shut_int Try.underlying5 w2) trodAll_mk0))), rfl, bel.frame _, fun h => by cases h⟩
theorem over : Rows.boundRisesRow.holds Try.pinned (OpenSpec.ofChange Rows.boundRisesSpec) :=
  OpenClaim.holds_of_wide 5 Try.f5 rfl rfl rfl rfl rfl rfl rfl ⟨rfl, rfl, rfl, rfl, rfl⟩ rfl rfl rfl rfl rfl (by kernel_rfl) Try.func5 (by kernel_rfl)
    (of_decide_eq_true (by kernel_rfl)) (by unfold Func.isWrapper; first | (rw [if_pos (by decide +kernel)]; kernel_rfl) | (rw [if_neg (by decide +kernel)]; exact ⟨rfl, rfl⟩))
    (fun os started H enc _ => lifted os started H enc)
theorem proved : Rows.BoundRisesSaid := over
end Go.Proofs.Ytghoeoidffkijaa.boundRises
namespace Go.Proofs.Ytghoeoidffkijaa
/-- The row, under a short name, for the claim. -/
theorem boundRises_holds : Rows.BoundRisesSaid := boundRises.proved
#print axioms boundRises_holds
end Go.Proofs.Ytghoeoidffkijaa
