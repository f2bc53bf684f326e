/- The law EpochTells of package gosper/gosperlaw17 returns true for every input and leaves its arguments as they were; no condition. -/
import Derived.Test.YtmhepmocnnlhnaaRI
namespace Go.Proofs.Ytmhepmocnnlhnaa.epochTells
open Go.ChangeShapes Go.WideShapes Go.ChangeAt Go.RowKit Go.Proofs.Ytmhepmocnnlhnaa.Ab
set_option maxRecDepth 100000 in
theorem lifted (os : Os) (started : os.Started) (H : Type) (enc : TypeId × Value → H) :
    ReturnsInHanded {} Try.checked os 3 .any (Rows.epochTellsSpec.pre6 enc Try.prog Try.f3 Rows.epochTellsRow.domain false) (Rows.epochTellsSpec.post enc Try.prog Try.f3 false true false false) := by
  refine returnsInHanded_of_change_sized (C := Try.checked) Ab.Try.own started (by kernel_rfl) Try.func3
    (ChangeSpec.witness6 (enc := enc) (C := Try.checked) false ⟨#[], #[.int .i64 0, .slice none 0 0, .agg #[.int .i64 0, .slice none 0 0, .slice none 0 0, .slice none 0 0, .slice none 0 0, .slice none 0 0], .int .i64 0, .int .i64 0], []⟩ 8 (by kernel_rfl) (by kernel_rfl) (by kernel_rfl) (by kernel_rfl)) ?_
  intro W base args ds gs before hval0 hW hcnd hsz _
  have hval : ∀ (j : Nat) t v, Try.f3.params[j]? = some t → args[j]? = some v → Value.okWide Try.prog W .any base t v := hval0
  have hW' := hW
  obtain ⟨p, q, hA0, hV, rfl, hfz, hnd⟩ := hW
  have hA : DataW.TrodAll enc Try.prog W 0 (fun _ => true) true Try.f3.params.toList args.toList ds p := hA0
  rw [Try.params3] at hA hval
  obtain ⟨v0, vs0, d0, ds0, p0, q0, hargs, rfl, rfl, h0, r0⟩ := trodAll_cons hA
  obtain ⟨v1, vs1, d1, ds1, p1, q1, rfl, rfl, rfl, h1, r1⟩ := trodAll_cons r0
  obtain ⟨v2, vs2, d2, ds2, p2, q2, rfl, rfl, rfl, h2, r2⟩ := trodAll_cons r1
  obtain ⟨v3, vs3, d3, ds3, p3, q3, rfl, rfl, rfl, h3, r3⟩ := trodAll_cons r2
  obtain ⟨v4, vs4, d4, ds4, p4, q4, rfl, rfl, rfl, h4, r4⟩ := trodAll_cons r3
  obtain ⟨rfl, rfl, rfl⟩ := trodAll_nil r4
  obtain rfl : args = #[v0, v1, v2, v3, v4] := by cases args; simp_all
  obtain ⟨rfl, rfl⟩ := trodVars_none hV
  have lt0 : ∀ x ∈ p0, x.block < W.heap.size := by obtain ⟨m, hm⟩ := h0; exact DataW.trod_lt m _ _ _ hm
  have lt1 : ∀ x ∈ p1, x.block < W.heap.size := by obtain ⟨m, hm⟩ := h1; exact DataW.trod_lt m _ _ _ hm
  have lt2 : ∀ x ∈ p2, x.block < W.heap.size := by obtain ⟨m, hm⟩ := h2; exact DataW.trod_lt m _ _ _ hm
  have lt3 : ∀ x ∈ p3, x.block < W.heap.size := by obtain ⟨m, hm⟩ := h3; exact DataW.trod_lt m _ _ _ hm
  have lt4 : ∀ x ∈ p4, x.block < W.heap.size := by obtain ⟨m, hm⟩ := h4; exact DataW.trod_lt m _ _ _ hm
  obtain ⟨x0, y0, z0⟩ := (k_int Try.underlying3 : Kd Try.prog 3 _ _) H enc W _ _ v0 d0 p0 (fun _ => (0, 0)) (hval 0 3 v0 rfl rfl) h0
  obtain ⟨x1, y1, z1⟩ := (k_slice (0, 0, 0) Try.underlying22 (by kernel_rfl) (e_arr3 Try.underlying45 Try.underlying3 (by kernel_rfl) (by kernel_rfl)) (by decide) : Kd Try.prog 22 _ _) H enc W _ _ v1 d1 p1 (fun _ => (0, 0)) (hval 1 22 v1 rfl rfl) h1
  obtain ⟨x2, y2, z2⟩ := (k_agg (.inr ⟨_, Try.underlying26⟩) (e_ep Try.underlying26 (by kernel_rfl) rfl Try.underlying23 (by kernel_rfl) Try.underlying3 (by kernel_rfl) ⟨_, rfl, rfl, Try.underlying3, (by kernel_rfl)⟩ ⟨_, rfl, rfl, rfl⟩ ⟨_, rfl, rfl, Try.underlying24, (by kernel_rfl)⟩ ⟨_, rfl, rfl, rfl⟩) : Kd Try.prog 26 _ _) H enc W _ _ v2 d2 p2 (fun _ => (0, 0)) (hval 2 26 v2 rfl rfl) h2
  obtain ⟨x3, y3, z3⟩ := (k_int Try.underlying3 : Kd Try.prog 3 _ _) H enc W _ _ v3 d3 p3 (fun _ => (0, 0)) (hval 3 3 v3 rfl rfl) h3
  obtain ⟨x4, y4, z4⟩ := (k_int Try.underlying3 : Kd Try.prog 3 _ _) H enc W _ _ v4 d4 p4 (fun _ => (0, 0)) (hval 4 3 v4 rfl rfl) h4
  have s2 := ep_bound Try.underlying26 rfl Try.underlying23 (by kernel_rfl) (by kernel_rfl) ⟨_, rfl, rfl, rfl⟩ ⟨_, rfl, rfl, Try.underlying24, (by kernel_rfl)⟩ ⟨_, rfl, rfl, rfl⟩ h2 y2 (fun n hn => by have := List.all_eq_true.1 hsz n (DataW.weights_mem_each (j := 2) (show _ = some 26 by kernel_rfl) rfl n hn); simpa using this)
  clear hA0 hval0
  refine (law_run (tells_s x0 x1 x2 x3 x4 z0 z1 z2 z3 z4 s2) (vr0_cons y0 (vr0_cons y1 (vr0_cons y2 (vr0_cons y3 (vr0_cons y4 vr0_nil)))))).mono fun e W' ⟨he, bel⟩ => ?_
  subst he
  exact ⟨_, rfl, _, _, _, [], _, [], hW', trodAll_mk1 (shut_bool Try.underlying4 _), (trodAll_cons_mk (Below.trod Ab.Try.laidOut (by kernel_rfl) (of_decide_eq_true (by kernel_rfl)) h0 bel lt0) (trodAll_cons_mk (Below.trod Ab.Try.laidOut (by kernel_rfl) (of_decide_eq_true (by kernel_rfl)) h1 bel lt1) (trodAll_cons_mk (Below.trod Ab.Try.laidOut (by kernel_rfl) (of_decide_eq_true (by kernel_rfl)) h2 bel lt2) (trodAll_cons_mk (Below.trod Ab.Try.laidOut (by kernel_rfl) (of_decide_eq_true (by kernel_rfl)) h3 bel lt3) (trodAll_cons_mk (Below.trod Ab.Try.laidOut (by kernel_rfl) (of_decide_eq_true (by kernel_rfl)) h4 bel lt4) trodAll_mk0))))), rfl, bel.frame _, fun h => by cases h⟩
theorem proved : Rows.EpochTellsSaid :=
  OpenClaim.holds_of_wide 3 Try.f3 rfl rfl rfl rfl rfl rfl rfl ⟨rfl, rfl, rfl, rfl, rfl⟩ rfl rfl rfl rfl rfl (by kernel_rfl) Try.func3 (by kernel_rfl)
    (of_decide_eq_true (by kernel_rfl)) (by unfold Func.isWrapper; first | (rw [if_pos (by decide +kernel)]; kernel_rfl) | (rw [if_neg (by decide +kernel)]; exact ⟨rfl, rfl⟩))
    (fun os started H enc _ => lifted os started H enc)
end Go.Proofs.Ytmhepmocnnlhnaa.epochTells
