/- EpochTells: what the parameter 'any' stands for. -/
import Derived.Test.YtmhepmocnnlhnaaRH
namespace Go.Proofs.Ytmhepmocnnlhnaa.Ab
open Go Go.RowKit
abbrev IL (xs : List Int) : Prop := xs.length ≤ maxLen ∧ ∀ x ∈ xs, I64 x
abbrev RI (bs : List AV) : Prop := ∃ n, bs = [AV.i n] ∧ I64 n
abbrev RL (bs : List AV) : Prop := ∃ xs : List Int, bs = [ints xs] ∧ IL xs
def EpS (E : Ep) : Prop := I64 E.now ∧ IL E.pins ∧ IL E.l0 ∧ IL E.l1 ∧ IL E.l2 ∧ IL E.free
theorem e_ep {P : Program} {t s e : TypeId} {fs : Array Field} (ht : P.underlying t = some (.struct fs)) (hc : P.cellsOf t = 6) (hn : fs.size = 4) (hs : P.underlying s = some (.slice e)) (hcs : P.cellsOf s = 1) (he : P.underlying e = some (.int .i64)) (hce : P.cellsOf e = 1)
    (h0 : ∃ f, fs[0]? = some f ∧ f.offset = 0 ∧ P.underlying f.type = some (.int .i64) ∧ P.cellsOf f.type = 1) (h1 : ∃ f, fs[1]? = some f ∧ f.offset = 1 ∧ f.type = s)
    (h2 : ∃ f, fs[2]? = some f ∧ f.offset = 2 ∧ P.underlying f.type = some (.array 3 s) ∧ P.cellsOf f.type = 3) (h3 : ∃ f, fs[3]? = some f ∧ f.offset = 5 ∧ f.type = s) : OpE P t 6 epc EpS := by
  have hsl : OpR P s 1 RL := e_ss (0 : Int) hs hcs (e_int he hce) (by decide)
  have h := op_struct (Rs := [(1, RI), (1, RL), (3, RS (List.replicate 3 (1, RL))), (1, RL)]) ht hc rfl hn fun i sz R hR => by
    rcases i with _ | _ | _ | _ | i
    · cases hR; obtain ⟨f, k1, k2, k3, k4⟩ := h0; exact ⟨f, k1, k2, op_i64 k3 k4⟩
    · cases hR; obtain ⟨f, k1, k2, rfl⟩ := h1; exact ⟨f, k1, k2, hsl⟩
    · cases hR; obtain ⟨f, k1, k2, k3, k4⟩ := h2; exact ⟨f, k1, k2, op_array k3 k4 hsl⟩
    · cases hR; obtain ⟨f, k1, k2, rfl⟩ := h3; exact ⟨f, k1, k2, hsl⟩
    · cases hR
  exact h.conv fun bs h => by
    obtain ⟨_, _, ⟨a, rfl, ha⟩, ⟨_, _, ⟨b, rfl, hb⟩, ⟨_, _, ⟨_, _, ⟨c0, rfl, h0⟩, ⟨_, _, ⟨c1, rfl, h1⟩, ⟨_, _, ⟨c2, rfl, h2⟩, rfl, rfl⟩, rfl⟩, rfl⟩, ⟨_, _, ⟨d, rfl, hd⟩, rfl, rfl⟩, rfl⟩, rfl⟩, rfl⟩ := h
    exact ⟨⟨a, b, c0, c1, c2, d⟩, rfl, ha, hb, h0, h1, h2, hd⟩
theorem slice_bound {P : Program} {H : Type} {enc : TypeId × Value → H} {s e : TypeId} {w : World} {m : Nat} {u : Value} {x : DataW H × List MemPlace} {φ : Pl} {sz n : Nat} {g : Nat → List AV}
    (hs : P.underlying s = some (.slice e)) (hT : DataW.trod enc P w 0 (fun _ => true) true m s [u] = some x) (hv : VRel (fun _ => False) φ (fun b => b < w.heap.size) w (.lst false sz n g) u) (hw : ∀ k ∈ x.1.weights P s, k ≤ reachBytes) (bt : Nat) (hb : P.bytesOf e = bt) : n * bt ≤ 140737488351232 := by
  obtain ⟨a0, c0, rfl, _⟩ := hv.inv_lst
  rcases DataW.trod_slice hs hT with ⟨hc, _⟩ | ⟨a, len, cap, elems, rest, m', _, hc, hx, _, _, _, hlen, _⟩
  · simp at hc
    obtain ⟨_, rfl, _⟩ := hc
    simp
  · simp at hc
    obtain ⟨_, rfl, _⟩ := hc
    subst hx
    have h1 := hw ((elems.length + rest.length) * P.bytesOf e) (by simp [DataW.weights, hs])
    rw [hb, hlen] at h1
    have h2 : reachBytes = 140737488351232 := by decide
    rw [h2] at h1
    exact Nat.le_trans (Nat.mul_le_mul_right _ (Nat.le_add_right _ _)) h1
theorem weights_mem_all {H : Type} {P : Program} {e : TypeId} : ∀ {ds : List (DataW H)} {j : Nat} {d : DataW H}, ds[j]? = some d → ∀ n ∈ d.weights P e, n ∈ DataW.weightsAll P e ds
  | d0 :: ds, 0, d, hd, n, hn => by
    simp only [List.getElem?_cons_zero, Option.some.injEq] at hd
    subst hd
    simp only [DataW.weightsAll, List.mem_append]
    exact Or.inl hn
  | d0 :: ds, j + 1, d, hd, n, hn => by
    simp only [List.getElem?_cons_succ] at hd
    simp only [DataW.weightsAll, List.mem_append]
    exact Or.inr (weights_mem_all hd n hn)
  | [], _, _, hd, _, _ => by simp at hd
/-- the lists of one's epochs -/
theorem ep_bound {P : Program} {H : Type} {enc : TypeId × Value → H} {t s e : TypeId} {fs : Array Field} {w : World} {v : Value} {d : DataW H} {p : List MemPlace} {φ : Pl} {E : Ep}
    (ht : P.underlying t = some (.struct fs)) (hn : fs.size = 4) (hs : P.underlying s = some (.slice e)) (hcs : P.cellsOf s = 1) (hb : P.bytesOf e = 8)
    (h1 : ∃ f, fs[1]? = some f ∧ f.offset = 1 ∧ f.type = s) (h2 : ∃ f, fs[2]? = some f ∧ f.offset = 2 ∧ P.underlying f.type = some (.array 3 s) ∧ P.cellsOf f.type = 3) (h3 : ∃ f, fs[3]? = some f ∧ f.offset = 5 ∧ f.type = s)
    (hT : DataW.Trod enc P w 0 (fun _ => true) true t v d p) (hv : VRel (fun _ => False) φ (fun b => b < w.heap.size) w (.agg (epc E)) v) (hw : ∀ k ∈ d.weights P t, k ≤ reachBytes) :
    E.pins.length * 8 ≤ 140737488351232 ∧ E.l0.length * 8 ≤ 140737488351232 ∧ E.l1.length * 8 ≤ 140737488351232 ∧ E.l2.length * 8 ≤ 140737488351232 ∧ E.free.length * 8 ≤ 140737488351232 := by
  obtain ⟨us, rfl, hr, ho⟩ := hv.inv_agg
  obtain ⟨fuel, hf⟩ := hT
  obtain ⟨hlen, hr⟩ := hr
  obtain ⟨u0, u1, u2, u3, u4, u5, rfl⟩ : ∃ u0 u1 u2 u3 u4 u5, us = [u0, u1, u2, u3, u4, u5] := by
    match us, hlen with
    | [u0, u1, u2, u3, u4, u5], _ => exact ⟨_, _, _, _, _, _, rfl⟩
  have e1 := hr 1 _ u1 rfl rfl
  have e2 := hr 2 _ u2 rfl rfl
  have e3 := hr 3 _ u3 rfl rfl
  have e4 := hr 4 _ u4 rfl rfl
  have e5 := hr 5 _ u5 rfl rfl
  have hf : DataW.trod enc P w 0 (fun _ => true) true fuel t [u0, u1, u2, u3, u4, u5] = some (d, p) := by simpa [Value.cells] using hf
  obtain ⟨xs, m, _, hx, hl, hxl, hi⟩ := DataW.trod_struct ht hf
  rw [hn] at hxl
  obtain ⟨y0, y1, y2, y3, rfl⟩ : ∃ y0 y1 y2 y3, xs = [y0, y1, y2, y3] := by
    match xs, hxl with
    | [y0, y1, y2, y3], _ => exact ⟨_, _, _, _, rfl⟩
  simp only [Prod.mk.injEq] at hx
  obtain ⟨rfl, _⟩ := hx
  obtain ⟨f1, k1, o1, t1⟩ := h1
  obtain ⟨f2, k2, o2, t2, c2⟩ := h2
  obtain ⟨f3, k3, o3, t3⟩ := h3
  have i1 := hi 1 f1 k1
  have i2 := hi 2 f2 k2
  have i3 := hi 3 f3 k3
  rw [o1, t1, hcs] at i1
  rw [o2, c2] at i2
  rw [o3, t3, hcs] at i3
  have wt : ∀ (j : Nat) f y, fs[j]? = some f → [y0, y1, y2, y3][j]? = some y → ∀ k ∈ y.1.weights P f.type, k ≤ reachBytes := fun j f y hf hy k hk => by
    refine hw k ?_
    simp only [DataW.weights, ht]
    refine DataW.weights_mem_each (j := j) ?_ ?_ k hk
    · rw [List.getElem?_map, Array.getElem?_toList, hf]; rfl
    · rw [List.getElem?_map, hy]; rfl
  have w1 := wt 1 f1 y1 k1 rfl
  have w2 := wt 2 f2 y2 k2 rfl
  have w3 := wt 3 f3 y3 k3 rfl
  rw [t1] at w1
  rw [t3] at w3
  obtain ⟨zs, m2, _, hz, hzl, hzn, hzi⟩ := DataW.trod_array t2 i2
  obtain ⟨z0, z1, z2, rfl⟩ : ∃ z0 z1 z2, zs = [z0, z1, z2] := by
    match zs, hzn with
    | [z0, z1, z2], _ => exact ⟨_, _, _, rfl⟩
  subst hz
  rw [hcs] at hzi
  have wz : ∀ (j : Nat) z, [z0, z1, z2][j]? = some z → ∀ k ∈ z.1.weights P s, k ≤ reachBytes := fun j z hz k hk => by
    refine w2 k ?_
    simp only [DataW.weights, t2]
    exact weights_mem_all (j := j) (by rw [List.getElem?_map, hz]; rfl) k hk
  exact ⟨slice_bound hs i1 e1 w1 8 hb, slice_bound hs (hzi 0 (by decide)) e2 (wz 0 z0 rfl) 8 hb, slice_bound hs (hzi 1 (by decide)) e3 (wz 1 z1 rfl) 8 hb, slice_bound hs (hzi 2 (by decide)) e4 (wz 2 z2 rfl) 8 hb, slice_bound hs i3 e5 w3 8 hb⟩
theorem tells_s (wk : Int) (L : List (Int × Int × Int)) (E : Ep) (w n : Int) (hwk : I64 wk) (hL : L.length ≤ maxLen ∧ R64 L) (hE : EpS E) (hw : I64 w) (hn : I64 n)
    (hb : E.pins.length * 8 ≤ 140737488351232 ∧ E.l0.length * 8 ≤ 140737488351232 ∧ E.l1.length * 8 ≤ 140737488351232 ∧ E.l2.length * 8 ≤ 140737488351232 ∧ E.free.length * 8 ≤ 140737488351232) :
    SC true Try.prog 3 [.i wk, rows3 L, .agg (epc E), .i w, .i n] [] (fun r _ => r = .b true) := tellsH_s [] wk L E w n hwk hL ⟨hE.1, by omega, by omega, by omega, by omega, by omega⟩ hw hn
end Go.Proofs.Ytmhepmocnnlhnaa.Ab
