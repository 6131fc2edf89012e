-- Written by a program of this repository (wip/tools/myprint.py over the print of the kit): contracts and rows.
import Derived.Test.YtepffabkcbfejaaRows
import Derived.Test.YtepffabkcbfejaaPEndingStepsx10
import Derived.Test.YtepffabkcbfejaaPureEndingSteps
import Derived.WalkKit
import Derived.ProofKit
import Derived.OpenShut
import Derived.ShutString
import Derived.ChangeOld
import Derived.Below
import Derived.SizedLaws
import Derived.Test.YtepffabkcbfejaaVEndingSteps
namespace Go.Proofs.Ytepffabkcbfejaa.endingSteps
open Go.ChangeShapes Go.WideShapes Go.ChangeAt Go.RowKit
open Go.ChangeMaps (open_string shut_string)
set_option linter.unusedVariables false
theorem own : ownKnob Try.prog.godebug = none := by kernel_rfl
theorem laidOut : laidOutB Try.prog = true := by kernel_rfl
def IsRow (k : IntKind) (w : World) (a : Option Addr) (len cap : Nat) (zs : List Int) : Prop :=
  (a = none ∧ len = 0 ∧ cap = 0 ∧ zs = []) ∨
  ∃ x, a = some x ∧ len ≤ cap ∧ cap ≤ maxLen ∧ zs.length = cap ∧ (∀ i, i < zs.length → w.cell? (x.add i) = some (.int k (zs.getD i 0))) ∧ ∀ n ∈ zs, (Lit.int k n).wf = true
open Go.Proofs.Ytepffabkcbfejaa.PEndingSteps Go.Proofs.YtepffabkcbfejaaW.PrintWords Go.Proofs.YtepffabkcbfejaaW.PrintLast Go.Proofs.YtepffabkcbfejaaW.PrintMore
/-! #### what came in as data, as a kind tells it -/
section
variable {H : Type} {enc : TypeId × Value → H} {P : Program} {W : World}
/-- Whatever reads as data of type t is a value of the kind d that is well formed. -/
def Opens {α : Type} (enc : TypeId × Value → H) (P : Program) (W : World) (t : TypeId) (d : Kd α) (wf : α → Prop) : Prop :=
  ∀ fuel cs x, DataW.trod enc P W 0 (fun _ => true) true fuel t cs = some x → ∃ a, d.K W a cs ∧ wf a
/-- The same of the fields of a struct, from a place on. -/
def OpensL {α : Type} (enc : TypeId × Value → H) (P : Program) (W : World) (fs : List Field) (off : Nat) (d : Kd α) (wf : α → Prop) : Prop :=
  ∀ (fuel : Nat) (cs : List Value) (xs : List (DataW H × List MemPlace)), cs.length = off + d.sz → (fs.mapM fun f => DataW.trod enc P W 0 (fun _ => true) true fuel f.type ((cs.drop f.offset).take (P.cellsOf f.type))) = some xs → ∃ a, d.K W a (cs.drop off) ∧ wf a
theorem opens_int {t : TypeId} {k : IntKind} (ht : P.underlying t = some (.int k)) : Opens enc P W t (Kd.int k) (fun n => (Lit.int k n).wf = true) := by
  intro fuel cs x h
  cases fuel with
  | zero => simp [DataW.trod] at h
  | succ fuel =>
    rcases cs with _ | ⟨c, _ | ⟨_, _⟩⟩
    · simp [DataW.trod, ht] at h
    · cases c <;> simp [DataW.trod, ht] at h
      rename_i k' n
      obtain ⟨⟨rfl, hw⟩, _⟩ := h
      exact ⟨n, rfl, hw⟩
    · simp [DataW.trod, ht] at h
theorem opens_bool {t : TypeId} (ht : P.underlying t = some .bool) : Opens enc P W t Kd.bool (fun _ => True) := by
  intro fuel cs x h
  cases fuel with
  | zero => simp [DataW.trod] at h
  | succ fuel =>
    rcases cs with _ | ⟨c, _ | ⟨_, _⟩⟩
    · simp [DataW.trod, ht] at h
    · cases c <;> simp [DataW.trod, ht] at h
      rename_i b
      exact ⟨b, rfl, trivial⟩
    · simp [DataW.trod, ht] at h
theorem opens_string {t : TypeId} (ht : P.underlying t = some .string) : Opens enc P W t Kd.string (fun s => s.size ≤ maxLen) := by
  intro fuel cs x h
  cases fuel with
  | zero => simp [DataW.trod] at h
  | succ fuel =>
    rcases cs with _ | ⟨c, _ | ⟨_, _⟩⟩
    · simp [DataW.trod, ht] at h
    · cases c <;> simp [DataW.trod, ht] at h
      rename_i s
      obtain ⟨hs, _⟩ := h
      exact ⟨s, rfl, hs⟩
    · simp [DataW.trod, ht] at h
theorem mapM_get {α β : Type} (f : α → Option β) : ∀ (l : List α) (ys : List β), l.mapM f = some ys → ys.length = l.length ∧ ∀ (i : Nat) (h : i < l.length), ∃ y, f l[i] = some y ∧ ys[i]? = some y
  | [], ys, h => by
    simp at h
    subst h
    exact ⟨rfl, fun i h => absurd h (Nat.not_lt_zero _)⟩
  | a :: l, ys, h => by
    simp only [List.mapM_cons, Option.bind_eq_bind, Option.bind_eq_some_iff, Option.pure_def, Option.some.injEq] at h
    obtain ⟨y, hy, ys', hys, rfl⟩ := h
    obtain ⟨h1, h2⟩ := mapM_get f l ys' hys
    refine ⟨by simp [h1], fun i hi => ?_⟩
    cases i with
    | zero => exact ⟨y, hy, rfl⟩
    | succ i => exact h2 i (by simpa using hi)
theorem cells_at {base n : Nat} {a : Addr} {c : List Value} (h : W.cells? base a n = some c) : c.length = n ∧ ∀ j u, c[j]? = some u → W.cell? (a.add j) = some u := by
  unfold World.cells? at h
  split at h
  · obtain ⟨h1, h2⟩ := mapM_get _ _ _ h
    rw [List.length_range] at h1
    refine ⟨h1, fun j u hu => ?_⟩
    have hj : j < c.length := by
      rcases Nat.lt_or_ge j c.length with hj | hj
      · exact hj
      · rw [List.getElem?_eq_none hj] at hu; cases hu
    obtain ⟨y, hy, hy2⟩ := h2 j (by rw [List.length_range]; omega)
    rw [List.getElem_range] at hy
    rw [hu] at hy2
    rw [hy]
    exact hy2.symm
  · cases h
theorem choose_list {α : Type} (R : Nat → α → Prop) : ∀ n : Nat, (∀ i, i < n → ∃ y, R i y) → ∃ l : List α, l.length = n ∧ ∀ i y, l[i]? = some y → R i y
  | 0, _ => ⟨[], rfl, fun i y h => by simp at h⟩
  | n + 1, h => by
    obtain ⟨l, hl, hr⟩ := choose_list R n (fun i hi => h i (by omega))
    obtain ⟨y, hy⟩ := h n (by omega)
    refine ⟨l ++ [y], by simp [hl], fun i z hz => ?_⟩
    rcases Nat.lt_or_ge i n with hi | hi
    · rw [List.getElem?_append_left (by omega)] at hz
      exact hr i z hz
    · rw [List.getElem?_append_right (by omega)] at hz
      have : i = n := by
        rcases Nat.lt_or_ge (i - l.length) 1 with h1 | h1
        · omega
        · rw [List.getElem?_eq_none (by simpa using h1)] at hz; cases hz
      subst this
      rw [hl, Nat.sub_self] at hz
      simp at hz
      subst hz
      exact hy
theorem opens_slice {α : Type} {t e : TypeId} {d : Kd α} {wf : α → Prop} (ht : P.underlying t = some (.slice e)) (hs : P.cellsOf e = d.sz) (ho : Opens enc P W e d wf) : Opens enc P W t (Kd.slice e d) (fun l => l.length ≤ maxLen ∧ ∀ x ∈ l, wf x) := by
  intro fuel cs x h
  cases fuel with
  | zero => simp [DataW.trod] at h
  | succ fuel =>
    rcases cs with _ | ⟨c, _ | ⟨_, _⟩⟩
    · simp [DataW.trod, ht] at h
    · cases c with
      | slice A len cap =>
        cases A with
        | none =>
          rcases len with _ | len <;> rcases cap with _ | cap <;> simp [DataW.trod, ht] at h
          exact ⟨[], ⟨none, 0, rfl, Nat.le_refl _, rfl, by simp, fun h => absurd h (by simp)⟩, by simp, by simp⟩
        | some a =>
          simp only [DataW.trod, ht] at h
          split at h
          · rename_i hg
            obtain ⟨elems, he, _⟩ := Option.bind_eq_some_iff.mp h
            obtain ⟨hlen, hget⟩ := mapM_get _ _ _ he
            simp only [List.length_range] at hlen hget
            obtain ⟨l, hl, hr⟩ := choose_list (fun i (y : α) => ∃ c : List Value, c.length = d.sz ∧ d.K W y c ∧ wf y ∧ ∀ j u, c[j]? = some u → W.cell? (a.add (i * d.sz + j)) = some u) len (by
              intro i hi
              obtain ⟨z, hz, _⟩ := hget i hi
              rw [List.getElem_range] at hz
              obtain ⟨c, hc, hz⟩ := Option.bind_eq_some_iff.mp hz
              obtain ⟨y, hy, hw⟩ := ho _ _ _ hz
              refine ⟨y, c, d.K_len hy, hy, hw, fun j u hu => ?_⟩
              have := (cells_at hc).2 j u hu
              rw [hs, Addr.add_add] at this
              exact this)
            subst hl
            have hmax : l.length ≤ maxLen := Nat.le_trans hg.2.1 hg.2.2
            refine ⟨l, ⟨some a, cap, rfl, hg.2.1, rfl, by unfold maxLen at hmax; omega, fun _ => ⟨a, rfl, fun j p hj => ?_⟩⟩, hmax, fun x hx => ?_⟩
            · obtain ⟨c, h1, h2, _, h4⟩ := hr j p hj
              exact ⟨c, h1, h2, h4⟩
            · obtain ⟨i, hi, rfl⟩ := List.mem_iff_getElem.mp hx
              obtain ⟨_, _, _, h3, _⟩ := hr i _ (List.getElem?_eq_getElem hi)
              exact h3
          · cases h
      | _ => simp [DataW.trod, ht] at h
    · simp [DataW.trod, ht] at h
theorem opensL_one {α : Type} {f : Field} {off : Nat} {d : Kd α} {wf : α → Prop} (h0 : f.offset = off) (h1 : P.cellsOf f.type = d.sz) (ho : Opens enc P W f.type d wf) : OpensL enc P W [f] off d wf := by
  intro fuel cs xs hl h
  simp only [List.mapM_cons, List.mapM_nil, Option.bind_eq_bind, Option.bind_eq_some_iff] at h
  obtain ⟨y, hy, _⟩ := h
  rw [h0, h1, List.take_of_length_le (by rw [List.length_drop]; omega)] at hy
  exact ho _ _ _ hy
theorem opensL_cons {α β : Type} {f : Field} {fs : List Field} {off : Nat} {d : Kd α} {d' : Kd β} {wf : α → Prop} {wf' : β → Prop} (h0 : f.offset = off) (h1 : P.cellsOf f.type = d.sz) (ho : Opens enc P W f.type d wf) (hr : OpensL enc P W fs (off + d.sz) d' wf') : OpensL enc P W (f :: fs) off (Kd.pair d d') (fun x => wf x.1 ∧ wf' x.2) := by
  intro fuel cs xs hl h
  simp only [List.mapM_cons, Option.bind_eq_bind, Option.bind_eq_some_iff] at h
  obtain ⟨y, hy, ys, hys, _⟩ := h
  have hl' : cs.length = off + (d.sz + d'.sz) := hl
  obtain ⟨b, hb, wb⟩ := hr fuel cs ys (by omega) hys
  rw [h0, h1] at hy
  obtain ⟨a, ha, wa⟩ := ho _ _ _ hy
  refine ⟨(a, b), ⟨_, _, ?_, ha, hb⟩, wa, wb⟩
  rw [← List.drop_drop, List.take_append_drop]
theorem opens_struct {α β : Type} {t : TypeId} {fs : Array Field} {d : Kd β} {wf : β → Prop} (ht : P.underlying t = some (.struct fs)) (hs : P.cellsOf t = d.sz) (ho : OpensL enc P W fs.toList 0 d wf) (f : α → β) (g : β → α) (hg : ∀ y, f (g y) = y) : Opens enc P W t (Kd.iso d f) (fun x => wf (f x)) := by
  intro fuel cs x h
  cases fuel with
  | zero => simp [DataW.trod] at h
  | succ fuel =>
    have h' : (if cs.length = P.cellsOf t then (fs.toList.mapM fun f => DataW.trod enc P W 0 (fun _ => true) true fuel f.type ((cs.drop f.offset).take (P.cellsOf f.type))).map fun xs => (DataW.agg (xs.map (·.1)), xs.flatMap (·.2)) else none) = some x := by
      rw [← h]; simp only [DataW.trod, ht]
    split at h'
    · rename_i hl
      obtain ⟨xs, hxs, _⟩ := Option.map_eq_some_iff.mp h'
      obtain ⟨a, ha, wa⟩ := ho fuel cs xs (by omega) hxs
      rw [List.drop_zero] at ha
      refine ⟨g a, ?_, ?_⟩
      · show d.K W (f (g a)) cs
        rw [hg]; exact ha
      · show wf (f (g a))
        rw [hg]; exact wa
    · cases h'
end

theorem okWide_agg {P : Program} {W : World} {r : Reach} {b0 : Nat} {t : TypeId} {fs : Array Field} {v : Value} (ht : P.underlying t = some (.struct fs)) (h : Value.okWide P W r b0 t v) : ∃ xs : Array Value, v = .agg xs := by
  simp only [Value.okWide, ht] at h
  obtain ⟨cs, h1, _⟩ := h
  exact ⟨cs, h1⟩
set_option maxRecDepth 100000 in
theorem lifted (os : Os) (started : os.Started) (H : Type) (enc : TypeId × Value → H) :
    ReturnsInHanded {} Try.checked os 7 .any (Rows.endingStepsSpec.pre6 enc Try.prog Try.f7 Rows.endingStepsRow.domain false) (Rows.endingStepsSpec.post enc Try.prog Try.f7 false true false false) := by
  refine returnsInHanded_of_change_sized (C := Try.checked) own started (by kernel_rfl) Try.func7
    (ChangeSpec.witness6 (enc := enc) (C := Try.checked) false ⟨#[], #[.slice none 0 0, .slice none 0 0, .int .i64 0, .int .i64 0, .int .i32 0, .int .i32 0, .agg #[.int .i64 0, .int .i64 0, .int .i64 0, .int .i64 0, .int .i64 0, .int .i64 0, .int .i64 0, .bool false]], []⟩ 8 (by kernel_rfl) (by kernel_rfl) (by kernel_rfl) (by kernel_rfl)) ?_
  intro W base args ds gs before hval0 hW hcnd hsz0 _
  have hsz : (DataW.weightsEach Try.prog (Try.f7.params.toList ++ Rows.endingStepsSpec.plain.varTypes Try.prog) (ds ++ gs)).all (· ≤ reachBytes) = true := hsz0
  have hval : ∀ (j : Nat) t v, Try.f7.params[j]? = some t → args[j]? = some v → Value.okWide Try.prog W .any base t v := hval0
  have hW' := hW
  obtain ⟨p, q, hA0, hV, rfl, hfz, hnd⟩ := hW
  have hA : DataW.TrodAll enc Try.prog W 0 (fun _ => true) true Try.f7.params.toList args.toList ds p := hA0
  rw [Try.params7] at hA hval hsz
  obtain ⟨v0, vs0, d0, ds0, p0, q0, hargs, rfl, rfl, h0, r0⟩ := trodAll_cons hA
  obtain ⟨v1, vs1, d1, ds1, p1, q1, rfl, rfl, rfl, h1, r1⟩ := trodAll_cons r0
  obtain ⟨v2, vs2, d2, ds2, p2, q2, rfl, rfl, rfl, h2, r2⟩ := trodAll_cons r1
  obtain ⟨v3, vs3, d3, ds3, p3, q3, rfl, rfl, rfl, h3, r3⟩ := trodAll_cons r2
  obtain ⟨v4, vs4, d4, ds4, p4, q4, rfl, rfl, rfl, h4, r4⟩ := trodAll_cons r3
  obtain ⟨v5, vs5, d5, ds5, p5, q5, rfl, rfl, rfl, h5, r5⟩ := trodAll_cons r4
  obtain ⟨v6, vs6, d6, ds6, p6, q6, rfl, rfl, rfl, h6, r6⟩ := trodAll_cons r5
  obtain ⟨rfl, rfl, rfl⟩ := trodAll_nil r6
  obtain rfl : args = #[v0, v1, v2, v3, v4, v5, v6] := by cases args; simp_all
  obtain ⟨rfl, rfl⟩ := trodVars_none hV
  obtain ⟨a0, len0, cap0, rfl⟩ := okWide_slice Try.underlying22 (hval 0 22 v0 rfl rfl)
  have k0 := h0
  have lt0 : ∀ x ∈ p0, x.block < W.heap.size := by obtain ⟨m, hm⟩ := k0; exact DataW.trod_lt m _ _ _ hm
  obtain ⟨z0, w0⟩ : ∃ zs, IsRow .u8 W a0 len0 cap0 zs := by
    obtain ⟨fuel, hf⟩ := h0
    rcases open_ints Try.underlying22 Try.underlying5 (by kernel_rfl) hf with ⟨hcs, _⟩ | ⟨x, l, c, zs, hcs, _, hl, hm, hz, _, hcell, hwz⟩
    · simp [Value.cells] at hcs
      obtain ⟨rfl, rfl, rfl⟩ := hcs
      exact ⟨[], .inl ⟨rfl, rfl, rfl, rfl⟩⟩
    · simp [Value.cells] at hcs
      obtain ⟨rfl, rfl, rfl⟩ := hcs
      exact ⟨zs, .inr ⟨_, rfl, hl, hm, by simpa using hz, hcell, hwz⟩⟩
  have y0 : len0 * 1 ≤ 140737488351232 := Go.Proofs.YtepffabkcbfejaaW.PrintWords.sized_ints hsz (j := 0) (t := 22) rfl rfl Try.underlying22 Try.underlying5 (by kernel_rfl) (by kernel_rfl) h0
  obtain ⟨a1, len1, cap1, rfl⟩ := okWide_slice Try.underlying26 (hval 1 26 v1 rfl rfl)
  have k1 := h1
  have lt1 : ∀ x ∈ p1, x.block < W.heap.size := by obtain ⟨m, hm⟩ := k1; exact DataW.trod_lt m _ _ _ hm
  obtain ⟨f1, hf1⟩ := h1
  obtain ⟨x1, hk1, w1⟩ := (opens_slice (d := k44) Try.underlying26 (by kernel_rfl) (opens_struct Try.underlying44 (by kernel_rfl) (opensL_cons (by rfl) (by kernel_rfl) (opens_int Try.underlying3) (opensL_cons (by rfl) (by kernel_rfl) (opens_int Try.underlying3) (opensL_cons (by rfl) (by kernel_rfl) (opens_int Try.underlying3) (opensL_cons (by rfl) (by kernel_rfl) (opens_int Try.underlying3) (opensL_cons (by rfl) (by kernel_rfl) (opens_int Try.underlying3) (opensL_cons (by rfl) (by kernel_rfl) (opens_int Try.underlying3) (opensL_cons (by rfl) (by kernel_rfl) (opens_int Try.underlying3) (opensL_one (by rfl) (by kernel_rfl) (opens_bool Try.underlying4))))))))) (fun x : S44 => (x.f0, x.f1, x.f2, x.f3, x.f4, x.f5, x.f6, x.f7)) (fun y => ⟨y.1, y.2.1, y.2.2.1, y.2.2.2.1, y.2.2.2.2.1, y.2.2.2.2.2.1, y.2.2.2.2.2.2.1, y.2.2.2.2.2.2.2⟩) (fun _ => rfl))) f1 _ _ hf1
  obtain ⟨A1, c1, hcs1, hc1, hr1⟩ := hk1
  simp only [Value.cells, List.cons.injEq, and_true, Value.slice.injEq] at hcs1
  obtain ⟨rfl, rfl, rfl⟩ := hcs1
  obtain ⟨a2, rfl, rfl, rfl, w2⟩ := open_int Try.underlying3 (hval 2 3 v2 rfl rfl) h2
  obtain ⟨a3, rfl, rfl, rfl, w3⟩ := open_int Try.underlying3 (hval 3 3 v3 rfl rfl) h3
  obtain ⟨a4, rfl, rfl, rfl, w4⟩ := open_int Try.underlying21 (hval 4 21 v4 rfl rfl) h4
  obtain ⟨a5, rfl, rfl, rfl, w5⟩ := open_int Try.underlying21 (hval 5 21 v5 rfl rfl) h5
  obtain ⟨xs6, rfl⟩ := okWide_agg Try.underlying44 (hval 6 44 v6 rfl rfl)
  have k6 := h6
  have lt6 : ∀ x ∈ p6, x.block < W.heap.size := by obtain ⟨m, hm⟩ := k6; exact DataW.trod_lt m _ _ _ hm
  obtain ⟨f6, hf6⟩ := h6
  obtain ⟨x6, hk6, w6⟩ := (opens_struct Try.underlying44 (by kernel_rfl) (opensL_cons (by rfl) (by kernel_rfl) (opens_int Try.underlying3) (opensL_cons (by rfl) (by kernel_rfl) (opens_int Try.underlying3) (opensL_cons (by rfl) (by kernel_rfl) (opens_int Try.underlying3) (opensL_cons (by rfl) (by kernel_rfl) (opens_int Try.underlying3) (opensL_cons (by rfl) (by kernel_rfl) (opens_int Try.underlying3) (opensL_cons (by rfl) (by kernel_rfl) (opens_int Try.underlying3) (opensL_cons (by rfl) (by kernel_rfl) (opens_int Try.underlying3) (opensL_one (by rfl) (by kernel_rfl) (opens_bool Try.underlying4))))))))) (fun x : S44 => (x.f0, x.f1, x.f2, x.f3, x.f4, x.f5, x.f6, x.f7)) (fun y => ⟨y.1, y.2.1, y.2.2.1, y.2.2.2.1, y.2.2.2.2.1, y.2.2.2.2.2.1, y.2.2.2.2.2.2.1, y.2.2.2.2.2.2.2⟩) (fun _ => rfl)) f6 _ _ hf6
  have hcs6 := k44_open hk6
  obtain rfl : xs6 = #[.int .i64 x6.f0, .int .i64 x6.f1, .int .i64 x6.f2, .int .i64 x6.f3, .int .i64 x6.f4, .int .i64 x6.f5, .int .i64 x6.f6, .bool x6.f7] := Array.ext' hcs6
  clear hA0 hval0 hsz0 hsz
  refine (PEndingSteps.storagebarterlaw26_EndingSteps.walk Pure.EndingSteps a0 len0 cap0 z0 a1 cap1 x1 a2 a3 a4 a5 x6.f0 x6.f1 x6.f2 x6.f3 x6.f4 x6.f5 x6.f6 x6.f7 W w0 y0 w1 hr1 hc1 w2 w3 w4 w5 w6).mono fun e W' ⟨he, bel⟩ => ?_
  subst he
  exact ⟨_, rfl, _, _, _, [], _, [], hW', trodAll_mk1 (shut_bool Try.underlying4 _), (trodAll_cons_mk (Below.trod laidOut (by kernel_rfl) (of_decide_eq_true (by kernel_rfl)) k0 bel lt0) (trodAll_cons_mk (Below.trod laidOut (by kernel_rfl) (of_decide_eq_true (by kernel_rfl)) k1 bel lt1) (trodAll_cons_mk (shut_int Try.underlying3 w2) (trodAll_cons_mk (shut_int Try.underlying3 w3) (trodAll_cons_mk (shut_int Try.underlying21 w4) (trodAll_cons_mk (shut_int Try.underlying21 w5) (trodAll_cons_mk (Below.trod laidOut (by kernel_rfl) (of_decide_eq_true (by kernel_rfl)) k6 bel lt6) trodAll_mk0))))))), rfl, bel.frame _, fun h => by cases h⟩
theorem over : Rows.endingStepsRow.holds Try.pinned (OpenSpec.ofChange Rows.endingStepsSpec) :=
  OpenClaim.holds_of_wide 7 Try.f7 rfl rfl rfl rfl rfl rfl rfl ⟨rfl, rfl, rfl, rfl, rfl⟩ rfl rfl rfl rfl rfl (by kernel_rfl) Try.func7 (by kernel_rfl)
    (of_decide_eq_true (by kernel_rfl)) (by unfold Func.isWrapper; first | (rw [if_pos (by decide +kernel)]; kernel_rfl) | (rw [if_neg (by decide +kernel)]; exact ⟨rfl, rfl⟩))
    (fun os started H enc _ => lifted os started H enc)
theorem proved : Rows.EndingStepsSaid := over
#print axioms proved
end Go.Proofs.Ytepffabkcbfejaa.endingSteps
namespace Go.Proofs.Ytepffabkcbfejaa
/-- The row, under a short name, for the claim. -/
theorem endingSteps_holds : Rows.EndingStepsSaid := endingSteps.proved
end Go.Proofs.Ytepffabkcbfejaa
