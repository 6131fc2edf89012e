-- Written by a program of this repository (wip/tools/myprint.py over the print of the kit): contracts and rows.
import Derived.Test.YtepffabkcbfejaaRows
import Derived.Test.YtepffabkcbfejaaPChunkJoinsx4
import Derived.Test.YtepffabkcbfejaaPureChunkJoins
import Derived.WalkKit
import Derived.ProofKit
import Derived.OpenShut
import Derived.ShutString
import Derived.ChangeOld
import Derived.Below
import Derived.JoinedCond
import Derived.SizedLaws
import Derived.Test.YtepffabkcbfejaaWSized
namespace Go.Proofs.Ytepffabkcbfejaa.chunkJoins
open Go.ChangeShapes Go.WideShapes Go.ChangeAt Go.RowKit
open Go.ChangeMaps (open_string shut_string)
set_option linter.unusedVariables false
theorem own : ownKnob Try.prog.godebug = none := by kernel_rfl
theorem laidOut : laidOutB Try.prog = true := by kernel_rfl
def IsRow (k : IntKind) (w : World) (a : Option Addr) (len cap : Nat) (zs : List Int) : Prop :=
  (a = none ∧ len = 0 ∧ cap = 0 ∧ zs = []) ∨
  ∃ x, a = some x ∧ len ≤ cap ∧ cap ≤ maxLen ∧ zs.length = cap ∧ (∀ i, i < zs.length → w.cell? (x.add i) = some (.int k (zs.getD i 0))) ∧ ∀ n ∈ zs, (Lit.int k n).wf = true
open Go.Proofs.Ytepffabkcbfejaa.PChunkJoins Go.Proofs.YtepffabkcbfejaaW.PrintWords Go.Proofs.YtepffabkcbfejaaW.PrintLast Go.Proofs.YtepffabkcbfejaaW.PrintMore
/-! #### what came in as data, as a kind tells it -/
section
variable {H : Type} {enc : TypeId × Value → H} {P : Program} {W : World}
/-- Whatever reads as data of type t is a value of the kind d that is well formed. -/
def Opens {α : Type} (enc : TypeId × Value → H) (P : Program) (W : World) (t : TypeId) (d : Kd α) (wf : α → Prop) : Prop :=
  ∀ fuel cs x, DataW.trod enc P W 0 (fun _ => true) true fuel t cs = some x → ∃ a, d.K W a cs ∧ wf a
/-- The same of the fields of a struct, from a place on. -/
def OpensL {α : Type} (enc : TypeId × Value → H) (P : Program) (W : World) (fs : List Field) (off : Nat) (d : Kd α) (wf : α → Prop) : Prop :=
  ∀ (fuel : Nat) (cs : List Value) (xs : List (DataW H × List MemPlace)), cs.length = off + d.sz → (fs.mapM fun f => DataW.trod enc P W 0 (fun _ => true) true fuel f.type ((cs.drop f.offset).take (P.cellsOf f.type))) = some xs → ∃ a, d.K W a (cs.drop off) ∧ wf a
theorem opens_int {t : TypeId} {k : IntKind} (ht : P.underlying t = some (.int k)) : Opens enc P W t (Kd.int k) (fun n => (Lit.int k n).wf = true) := by
  intro fuel cs x h
  cases fuel with
  | zero => simp [DataW.trod] at h
  | succ fuel =>
    rcases cs with _ | ⟨c, _ | ⟨_, _⟩⟩
    · simp [DataW.trod, ht] at h
    · cases c <;> simp [DataW.trod, ht] at h
      rename_i k' n
      obtain ⟨⟨rfl, hw⟩, _⟩ := h
      exact ⟨n, rfl, hw⟩
    · simp [DataW.trod, ht] at h
theorem opens_bool {t : TypeId} (ht : P.underlying t = some .bool) : Opens enc P W t Kd.bool (fun _ => True) := by
  intro fuel cs x h
  cases fuel with
  | zero => simp [DataW.trod] at h
  | succ fuel =>
    rcases cs with _ | ⟨c, _ | ⟨_, _⟩⟩
    · simp [DataW.trod, ht] at h
    · cases c <;> simp [DataW.trod, ht] at h
      rename_i b
      exact ⟨b, rfl, trivial⟩
    · simp [DataW.trod, ht] at h
theorem opens_string {t : TypeId} (ht : P.underlying t = some .string) : Opens enc P W t Kd.string (fun s => s.size ≤ maxLen) := by
  intro fuel cs x h
  cases fuel with
  | zero => simp [DataW.trod] at h
  | succ fuel =>
    rcases cs with _ | ⟨c, _ | ⟨_, _⟩⟩
    · simp [DataW.trod, ht] at h
    · cases c <;> simp [DataW.trod, ht] at h
      rename_i s
      obtain ⟨hs, _⟩ := h
      exact ⟨s, rfl, hs⟩
    · simp [DataW.trod, ht] at h
theorem mapM_get {α β : Type} (f : α → Option β) : ∀ (l : List α) (ys : List β), l.mapM f = some ys → ys.length = l.length ∧ ∀ (i : Nat) (h : i < l.length), ∃ y, f l[i] = some y ∧ ys[i]? = some y
  | [], ys, h => by
    simp at h
    subst h
    exact ⟨rfl, fun i h => absurd h (Nat.not_lt_zero _)⟩
  | a :: l, ys, h => by
    simp only [List.mapM_cons, Option.bind_eq_bind, Option.bind_eq_some_iff, Option.pure_def, Option.some.injEq] at h
    obtain ⟨y, hy, ys', hys, rfl⟩ := h
    obtain ⟨h1, h2⟩ := mapM_get f l ys' hys
    refine ⟨by simp [h1], fun i hi => ?_⟩
    cases i with
    | zero => exact ⟨y, hy, rfl⟩
    | succ i => exact h2 i (by simpa using hi)
theorem cells_at {base n : Nat} {a : Addr} {c : List Value} (h : W.cells? base a n = some c) : c.length = n ∧ ∀ j u, c[j]? = some u → W.cell? (a.add j) = some u := by
  unfold World.cells? at h
  split at h
  · obtain ⟨h1, h2⟩ := mapM_get _ _ _ h
    rw [List.length_range] at h1
    refine ⟨h1, fun j u hu => ?_⟩
    have hj : j < c.length := by
      rcases Nat.lt_or_ge j c.length with hj | hj
      · exact hj
      · rw [List.getElem?_eq_none hj] at hu; cases hu
    obtain ⟨y, hy, hy2⟩ := h2 j (by rw [List.length_range]; omega)
    rw [List.getElem_range] at hy
    rw [hu] at hy2
    rw [hy]
    exact hy2.symm
  · cases h
theorem choose_list {α : Type} (R : Nat → α → Prop) : ∀ n : Nat, (∀ i, i < n → ∃ y, R i y) → ∃ l : List α, l.length = n ∧ ∀ i y, l[i]? = some y → R i y
  | 0, _ => ⟨[], rfl, fun i y h => by simp at h⟩
  | n + 1, h => by
    obtain ⟨l, hl, hr⟩ := choose_list R n (fun i hi => h i (by omega))
    obtain ⟨y, hy⟩ := h n (by omega)
    refine ⟨l ++ [y], by simp [hl], fun i z hz => ?_⟩
    rcases Nat.lt_or_ge i n with hi | hi
    · rw [List.getElem?_append_left (by omega)] at hz
      exact hr i z hz
    · rw [List.getElem?_append_right (by omega)] at hz
      have : i = n := by
        rcases Nat.lt_or_ge (i - l.length) 1 with h1 | h1
        · omega
        · rw [List.getElem?_eq_none (by simpa using h1)] at hz; cases hz
      subst this
      rw [hl, Nat.sub_self] at hz
      simp at hz
      subst hz
      exact hy
theorem bulk_append {H : Type} (l r : List (DataW H)) : Rows.uptoBulkAll (l ++ r) = Rows.uptoBulkAll l + Rows.uptoBulkAll r := by
  induction l with
  | nil => simp [Rows.uptoBulkAll]
  | cons x l ih => simp only [List.cons_append, Rows.uptoBulkAll, ih]; omega
theorem bulk_strings {H : Type} : ∀ (l : List ByteArray) (es : List (DataW H × List MemPlace)), es.length = l.length → (∀ (i : Nat) (y : ByteArray), l[i]? = some y → ∃ z : DataW H × List MemPlace, es[i]? = some z ∧ z.1 = DataW.lit (.string y.data.toList)) → Pure.tot l + l.length ≤ (Rows.uptoBulkAll (es.map (·.1)) : Int)
  | [], es, _, _ => by simp only [Pure.tot, List.length_nil]; omega
  | y :: l, [], h, _ => by simp at h
  | y :: l, z :: es, h, hz => by
    have h1 := bulk_strings l es (by simpa using h) (fun i y' hy => by have := hz (i + 1) y' (by simpa using hy); simpa using this)
    obtain ⟨z', hz', e'⟩ := hz 0 y (by simp)
    simp only [List.getElem?_cons_zero, Option.some.injEq] at hz'
    subst hz'
    have hs : (y.data.toList.length : Int) = y.size := by rw [Array.length_toList]; rfl
    simp only [List.map_cons, Rows.uptoBulkAll, e', Rows.uptoBulk, Pure.tot, List.length_cons]
    push_cast
    omega
theorem opens_strings {t e : TypeId} (ht : P.underlying t = some (.slice e)) (he : P.underlying e = some .string) (hs : P.cellsOf e = 1) : ∀ fuel cs x, DataW.trod enc P W 0 (fun _ => true) true fuel t cs = some x → ∃ l : List ByteArray, (Kd.slice e Kd.string).K W l cs ∧ Pure.tot l + l.length ≤ (Rows.uptoBulk x.1 : Int) := by
  intro fuel cs x h
  cases fuel with
  | zero => simp [DataW.trod] at h
  | succ fuel =>
    rcases cs with _ | ⟨c, _ | ⟨_, _⟩⟩
    · simp [DataW.trod, ht] at h
    · cases c with
      | slice A len cap =>
        cases A with
        | none =>
          rcases len with _ | len <;> rcases cap with _ | cap <;> simp [DataW.trod, ht] at h
          exact ⟨[], ⟨none, 0, rfl, Nat.le_refl _, rfl, by simp, fun h => absurd h (by simp)⟩, by simp only [Pure.tot, List.length_nil]; omega⟩
        | some a =>
          simp only [DataW.trod, ht] at h
          split at h
          · rename_i hg
            obtain ⟨elems, he', hx⟩ := Option.bind_eq_some_iff.mp h
            obtain ⟨rest, _, hx2⟩ := Option.map_eq_some_iff.mp hx
            obtain ⟨hlen, hget⟩ := mapM_get _ _ _ he'
            simp only [List.length_range] at hlen hget
            obtain ⟨l, hl, hr⟩ := choose_list (fun i (y : ByteArray) => (∃ c : List Value, c.length = (Kd.string).sz ∧ (Kd.string).K W y c ∧ y.size ≤ maxLen ∧ ∀ j u, c[j]? = some u → W.cell? (a.add (i * (Kd.string).sz + j)) = some u) ∧ ∃ z, elems[i]? = some z ∧ z.1 = .lit (.string y.data.toList)) len (by
              intro i hi
              obtain ⟨z, hz, hze⟩ := hget i hi
              rw [List.getElem_range] at hz
              obtain ⟨c, hc, hz⟩ := Option.bind_eq_some_iff.mp hz
              obtain ⟨y, hy, hw⟩ := opens_string he _ _ _ hz
              have hlit : z.1 = .lit (.string y.data.toList) := by
                cases fuel with
                | zero => simp [DataW.trod] at hz
                | succ fuel =>
                  rcases c with _ | ⟨c, _ | ⟨_, _⟩⟩
                  · simp [DataW.trod, he] at hz
                  · cases c <;> simp [DataW.trod, he] at hz
                    obtain ⟨_, rfl⟩ := hz
                    have hy' : [Value.string _] = [Value.string y] := hy
                    injection hy' with e1 e2
                    injection e1 with e1
                    subst e1
                    rfl
                  · simp [DataW.trod, he] at hz
              refine ⟨y, ⟨c, Kd.string.K_len hy, hy, hw, fun j u hu => ?_⟩, z, hze, hlit⟩
              have := (cells_at hc).2 j u hu
              rw [hs, Addr.add_add] at this
              exact this)
            subst hl
            have hmax : l.length ≤ maxLen := Nat.le_trans hg.2.1 hg.2.2
            refine ⟨l, ⟨some a, cap, rfl, hg.2.1, rfl, by unfold maxLen at hmax; omega, fun _ => ⟨a, rfl, fun j p hj => ?_⟩⟩, ?_⟩
            · obtain ⟨⟨c, h1, h2, _, h4⟩, _⟩ := hr j p hj
              exact ⟨c, h1, h2, h4⟩
            · have hb := bulk_strings l elems hlen (fun i y hy => (hr i y hy).2)
              subst hx2
              simp only [Rows.uptoBulk]
              push_cast
              omega
          · cases h
      | _ => simp [DataW.trod, ht] at h
    · simp [DataW.trod, ht] at h
end

theorem okWide_agg {P : Program} {W : World} {r : Reach} {b0 : Nat} {t : TypeId} {fs : Array Field} {v : Value} (ht : P.underlying t = some (.struct fs)) (h : Value.okWide P W r b0 t v) : ∃ xs : Array Value, v = .agg xs := by
  simp only [Value.okWide, ht] at h
  obtain ⟨cs, h1, _⟩ := h
  exact ⟨cs, h1⟩
theorem walk (A0 : Option Addr) (c0 : Nat) (l0 : List ByteArray) (a1 : Int) (a2 : Int) (w : World) (hL : l0.length ≤ 10000000) (hT : Pure.tot l0 ≤ 10000000) (hr0 : Kd.C Kd.string w A0 l0.length l0) (hc0 : l0.length ≤ c0) (w1 : (Lit.int .u8 a1).wf = true) :
    Calls Try.prog 10 #[.slice A0 l0.length c0, .int .u8 a1, .int .u8 a2] w fun e w' => e = .returned (.bool true) ∧ Below w.heap.size w w' := by
  obtain ⟨k, h⟩ := Pure.ChunkJoins l0 a1 a2 hL hT w1
  refine (PChunkJoins.storagebarterlaw04_ChunkJoins.calls k (fun _ => True) A0 c0 l0 a1 a2 true w (Kd.V_mk hc0 (fun W_ hW_ => Kd.Heap.C Kd.heap_string (fun k_ hlt_ => hW_ k_ trivial hlt_) hr0)) h rfl).mono ?_
  rintro e w' ⟨rfl, hd⟩
  exact ⟨rfl, hd⟩
theorem contract (H : Type) (enc : TypeId × Value → H) (W : World) (base : Nat) (args : Array Value) (ds gs : List (DataW H)) (before : List MemPlace)
    (hval0 : ∀ (j : Nat) t v, Try.f10.params[j]? = some t → args[j]? = some v → Value.okWide Try.prog W .any base t v)
    (hW : DataW.Whole enc Try.prog Try.f10.params.toList Rows.chunkJoinsSpec.vars false W args.toList ds gs before) (hk : Rows.uptoSmall H (ds ++ gs) = true) :
    Calls Try.prog 10 args W fun e W' => ∃ v, e = .returned v ∧ Rows.chunkJoinsSpec.post enc Try.prog Try.f10 false true false false W args v W' := by
  have hval : ∀ (j : Nat) t v, Try.f10.params[j]? = some t → args[j]? = some v → Value.okWide Try.prog W .any base t v := hval0
  have hW' := hW
  obtain ⟨p, q, hA0, hV, rfl, hfz, hnd⟩ := hW
  have hA : DataW.TrodAll enc Try.prog W 0 (fun _ => true) true Try.f10.params.toList args.toList ds p := hA0
  rw [Try.params10] at hA hval
  obtain ⟨v0, vs0, d0, ds0, p0, q0, hargs, rfl, rfl, h0, r0⟩ := trodAll_cons hA
  obtain ⟨v1, vs1, d1, ds1, p1, q1, rfl, rfl, rfl, h1, r1⟩ := trodAll_cons r0
  obtain ⟨v2, vs2, d2, ds2, p2, q2, rfl, rfl, rfl, h2, r2⟩ := trodAll_cons r1
  obtain ⟨rfl, rfl, rfl⟩ := trodAll_nil r2
  obtain rfl : args = #[v0, v1, v2] := by cases args; simp_all
  obtain ⟨rfl, rfl⟩ := trodVars_none hV
  obtain ⟨a0, len0, cap0, rfl⟩ := okWide_slice Try.underlying60 (hval 0 60 v0 rfl rfl)
  have k0 := h0
  have lt0 : ∀ x ∈ p0, x.block < W.heap.size := by obtain ⟨m, hm⟩ := k0; exact DataW.trod_lt m _ _ _ hm
  obtain ⟨f0, hf0⟩ := h0
  obtain ⟨x0, hk0, w0⟩ := opens_strings Try.underlying60 Try.underlying9 (by kernel_rfl) f0 _ _ hf0
  have hk1 : Rows.uptoBulkAll _ ≤ 1048576 := of_decide_eq_true hk
  simp only [List.cons_append, Rows.uptoBulkAll] at hk1
  dsimp only at w0
  have ht0 := Pure.tot_nonneg x0
  obtain ⟨A0, c0, hcs0, hc0, hr0⟩ := hk0
  simp only [Value.cells, List.cons.injEq, and_true, Value.slice.injEq] at hcs0
  obtain ⟨rfl, rfl, rfl⟩ := hcs0
  obtain ⟨a1, rfl, rfl, rfl, w1⟩ := open_int Try.underlying5 (hval 1 5 v1 rfl rfl) h1
  obtain ⟨a2, rfl, rfl, rfl, w2⟩ := open_int Try.underlying5 (hval 2 5 v2 rfl rfl) h2
  clear hA0 hval0
  refine (walk a0 cap0 x0 a1 a2 W (by omega) (by omega) hr0 hc0 w1).mono fun e W' ⟨he, bel⟩ => ?_
  subst he
  exact ⟨_, rfl, _, _, _, [], _, [], hW', trodAll_mk1 (shut_bool Try.underlying4 _), (trodAll_cons_mk (Below.trod laidOut (by kernel_rfl) (of_decide_eq_true (by kernel_rfl)) k0 bel lt0) (trodAll_cons_mk (shut_int Try.underlying5 w1) (trodAll_cons_mk (shut_int Try.underlying5 w2) trodAll_mk0))), rfl, bel.frame _, fun h => by cases h⟩
set_option maxRecDepth 100000 in
theorem lifted (os : Os) (started : os.Started) (H : Type) (enc : TypeId × Value → H) (F : Stop.Interp) :
    ReturnsInHanded {} Try.checked os 10 .any ((Rows.OpenSpec.upto Rows.chunkJoinsSpec).pre6 enc Try.prog Try.f10 Rows.chunkJoinsUptoRow.domain false) (((Rows.OpenSpec.upto Rows.chunkJoinsSpec).at F).post enc Try.prog Try.f10 false true false false) := by
  refine returnsInHanded_of_cond (C := Try.checked) (s := Rows.OpenSpec.upto Rows.chunkJoinsSpec) (k := Rows.uptoSmall) rfl own started (by kernel_rfl) Try.func10
    (OpenSpec.witness (enc := enc) (C := Try.checked) (s := Rows.OpenSpec.upto Rows.chunkJoinsSpec) (k := Rows.uptoSmall) rfl false ⟨#[], #[.slice none 0 0, .int .u8 0, .int .u8 0], []⟩ 8 (by kernel_rfl) (by kernel_rfl) (by kernel_rfl)
      (x := ([.nil, .lit (.int .u8 0), .lit (.int .u8 0)], [], [])) (by kernel_rfl) rfl (by kernel_rfl)) ?_
  intro W base args ds gs before hval hW _ hk _
  exact contract H enc W base args ds gs before hval hW hk
theorem over : Rows.chunkJoinsUptoRow.holds Try.pinned (Rows.OpenSpec.upto Rows.chunkJoinsSpec) :=
  OpenClaim.holds_of_cond 10 Try.f10 rfl rfl rfl rfl rfl rfl rfl ⟨rfl, rfl, rfl, rfl, rfl⟩ rfl rfl rfl rfl rfl (by kernel_rfl) Try.func10 (by kernel_rfl)
    (of_decide_eq_true (by kernel_rfl)) (by unfold Func.isWrapper; first | (rw [if_pos (by decide +kernel)]; kernel_rfl) | (rw [if_neg (by decide +kernel)]; exact ⟨rfl, rfl⟩))
    (fun os started H enc _ F => lifted os started H enc F)
theorem proved : Rows.ChunkJoinsUptoSaid := over
#print axioms proved
end Go.Proofs.Ytepffabkcbfejaa.chunkJoins
namespace Go.Proofs.Ytepffabkcbfejaa
/-- The row, under a short name, for the claim. -/
theorem chunkJoins_holds : Rows.ChunkJoinsUptoSaid := chunkJoins.proved
end Go.Proofs.Ytepffabkcbfejaa
