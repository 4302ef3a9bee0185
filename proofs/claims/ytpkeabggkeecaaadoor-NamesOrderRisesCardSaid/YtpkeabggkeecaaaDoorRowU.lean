/- Rows of laws, second part: the contract of a row that lists variables, or whose specification bears the bound: out of a walk that ends in 'true, and all that was there is as it was'; what the bound says of an argument (OpensB). -/
import Derived.Test.YtpkeabggkeecaaaDoorRow
import Derived.Deep.DeepHandedRow
import Derived.Lib.LaidTab
set_option linter.unusedVariables false
set_option linter.unusedSimpArgs false
namespace Go.Proofs.YtpkeabggkeecaaaDoor
open Go.ChangeShapes Go.WideShapes Go.ChangeAt Go.RowKit Go.Proofs.YtpkeabggkeecaaaDoorW.PrintWords
namespace Rw
/-- What the contract of a row without variables of its own says, out of a walk. -/
theorem post_law {H : Type} {enc : TypeId × Value → H} {P : Program} {f : FuncId} {fn : Func} {s : ChangeSpec} {tb : TypeId}
    (hl : laidOutB P = true) (hps : fn.params.toList.all (fun t => P.readableRec t && decide (t < P.types.size)) = true)
    (hres : fn.resultTypes = #[tb]) (htb : P.underlying tb = some .bool) (hvars : s.vars = [])
    (hspec : ∀ ds : List (DataW H), ds.length = fn.params.toList.length → s.fn H ds = { results := [.lit (.bool true)], args := ds })
    {W : World} {args : Array Value} {ds gs : List (DataW H)} {before : List MemPlace}
    (hW : DataW.Whole enc P fn.params.toList s.vars false W args.toList ds gs before)
    (walk : Calls P f args W fun e W' => e = .returned (.bool true) ∧ Below W.heap.size W W') :
    Calls P f args W fun e W' => ∃ v, e = .returned v ∧ s.post enc P fn false true false false W args v W' := by
  have hW' := hW
  obtain ⟨p, q, hA, hV, rfl, _, _⟩ := hW
  rw [hvars] at hV
  obtain ⟨rfl, rfl⟩ := trodVars_none hV
  have hlen : ds.length = fn.params.toList.length := by
    have : ∀ {ts : List TypeId} {vs : List Value} {ds : List (DataW H)} {ps : List MemPlace}, DataW.TrodAll enc P W 0 (fun _ => true) true ts vs ds ps → ds.length = ts.length := by
      intro ts
      induction ts with
      | nil => intro vs ds ps h; obtain ⟨rfl, rfl, rfl⟩ := trodAll_nil h; rfl
      | cons t ts ih => intro vs ds ps h; obtain ⟨v, vs, d, ds, p, q, rfl, rfl, rfl, h1, h2⟩ := trodAll_cons h; simp [ih h2]
    exact this hA
  have hsp := hspec ds hlen
  refine walk.mono fun e W' ⟨he, bel⟩ => ⟨_, he, ?_⟩
  refine ⟨ds, [], _, [], p, [], hW', ?_, ?_, ?_, bel.frame _, fun h => by cases h⟩
  · rw [List.append_nil, hsp, hres]
    exact trodAll_mk1 (shut_bool htb _)
  · rw [List.append_nil, hsp]
    exact trodAll_below hl bel hps hA
  · rw [List.append_nil, hsp, hvars]
    rfl
/-- The arguments' own reading and reach, out of the whole. -/
theorem args_of {H : Type} {enc : TypeId × Value → H} {P : Program} {fn : Func} {s : OpenSpec} (hvars : s.vars = []) {W : World} {args : Array Value} {ds gs : List (DataW H)} {before : List MemPlace}
    (hW : DataW.Whole enc P fn.params.toList s.vars false W args.toList ds gs before)
    (hz : (DataW.weightsEach P (fn.params.toList ++ s.bare.plain.varTypes P) (ds ++ gs)).all (· ≤ reachBytes) = true) :
    ∃ p, DataW.TrodAll enc P W 0 (fun _ => true) true fn.params.toList args.toList ds p ∧ (∀ n ∈ DataW.weightsEach P fn.params.toList ds, n ≤ reachBytes) ∧ gs = [] := by
  obtain ⟨p, q, hA, hV, rfl, _, _⟩ := hW
  rw [hvars] at hV
  obtain ⟨rfl, rfl⟩ := trodVars_none hV
  have hvt : s.bare.plain.varTypes P = [] := by simp [OpenSpec.bare, ChangeSpec.plain, DataSpec.varTypes, hvars]
  rw [hvt, List.append_nil, List.append_nil] at hz
  exact ⟨p, hA, by simpa using hz, rfl⟩
/-! ### The bound -/
theorem bulk_one {H : Type} (d : DataW H) : 1 ≤ Rows.uptoBulk d := by
  cases d with
  | lit l => cases l <;> simp [Rows.uptoBulk]
  | nil => simp [Rows.uptoBulk]
  | ptr d => simp [Rows.uptoBulk]
  | slice elems spare => simp [Rows.uptoBulk]
  | agg parts => simp [Rows.uptoBulk]
  | iface t d => simp [Rows.uptoBulk]
  | map entries => simp [Rows.uptoBulk]
  | held h => simp [Rows.uptoBulk]
theorem bulk_mem {H : Type} : ∀ {l : List (DataW H)} {d : DataW H}, d ∈ l → Rows.uptoBulk d ≤ Rows.uptoBulkAll l
  | x :: r, d, h => by
    simp only [Rows.uptoBulkAll]
    rcases List.mem_cons.1 h with e | e
    · subst e; omega
    · have := bulk_mem e; omega
theorem bulk_length {H : Type} (l : List (DataW H)) : l.length ≤ Rows.uptoBulkAll l := by
  induction l with
  | nil => simp [Rows.uptoBulkAll]
  | cons x r ih => have := bulk_one x; simp only [Rows.uptoBulkAll, List.length_cons]; omega
theorem bulk_le {H : Type} {l : List (DataW H)} (h : Rows.uptoSmall H (l ++ []) = true) : Rows.uptoBulkAll l ≤ 1048576 := by
  rw [List.append_nil] at h
  exact of_decide_eq_true h
/-- Whatever reads as data at type t, within the bound, has cells that say a value of kind k, for which G holds. -/
def OpensB (P : Program) (t : TypeId) {α : Type} (k : Kd α) (G : α → Prop) : Prop :=
  ∀ {H : Type} {enc : TypeId × Value → H} {w : World} {base : Nat} {spare : Nat → Bool} {held : Bool} {fuel : Nat} {cs : List Value} {d : DataW H} {pl : List MemPlace},
    DataW.trod enc P w base spare held fuel t cs = some (d, pl) → Rows.uptoBulk d ≤ 1048576 → ∃ x, k.K w x cs ∧ G x
section
variable {P : Program} {t e : TypeId}
theorem opensB_int {k : IntKind} (hu : P.underlying t = some (.int k)) : OpensB P t (Kd.int k) (fun n => (Lit.int k n).wf = true) := by
  intro H enc w base spare held fuel cs d pl h _
  obtain ⟨n, rfl, _, hw⟩ := DataW.trod_int hu h
  exact ⟨n, rfl, hw⟩
theorem opensB_bool (hu : P.underlying t = some .bool) : OpensB P t Kd.bool (fun _ => True) := by
  intro H enc w base spare held fuel cs d pl h _
  obtain ⟨b, rfl, _⟩ := DataW.trod_bool hu h
  exact ⟨b, rfl, trivial⟩
theorem opensB_string (hu : P.underlying t = some .string) : OpensB P t Kd.string (fun s => s.size ≤ 1048576) := by
  intro H enc w base spare held fuel cs d pl h hz
  obtain ⟨s, rfl, hx, hs⟩ := DataW.trod_string hu h
  simp only [Prod.mk.injEq] at hx
  obtain ⟨rfl, rfl⟩ := hx
  refine ⟨s, rfl, ?_⟩
  simp only [Rows.uptoBulk] at hz
  have : s.size = s.data.toList.length := by rw [Array.length_toList]; rfl
  omega
theorem opensB_slice {α : Type} {k : Kd α} {G : α → Prop} (hu : P.underlying t = some (.slice e)) (hk : k.sz = P.cellsOf e) (he : OpensB P e k G) :
    OpensB P t (Kd.slice e k) (fun xs => xs.length ≤ 1048576 ∧ ∀ x ∈ xs, G x) := by
  intro H enc w base spare held fuel cs d pl h hz
  rcases Deep.open_slice hu h with ⟨rfl, hx⟩ | ⟨a, len, cap, m, n, D, Pl, rfl, hb, hl, hm, hmm, hx, hel⟩
  · exact ⟨[], ⟨none, 0, rfl, Nat.le_refl _, Kd.C_nil _ _⟩, Nat.zero_le _, by simp⟩
  · simp only [Prod.mk.injEq] at hx
    obtain ⟨rfl, rfl⟩ := hx
    have hlm : len ≤ m := by rw [hmm]; split <;> omega
    simp only [Rows.uptoBulk] at hz
    have hz1 : ∀ i, i < len → Rows.uptoBulk (D i) ≤ 1048576 := fun i hi => by
      have := bulk_mem (List.mem_map.2 ⟨i, List.mem_range.2 hi, rfl⟩ : D i ∈ (List.range len).map D)
      omega
    have hz0 := bulk_length ((List.range len).map D)
    have key : ∀ j, j ≤ len → ∃ xs : List α, xs.length = j ∧ (∀ x ∈ xs, G x) ∧ ∀ i (hi : i < xs.length), ∃ c, c.length = k.sz ∧ k.K w xs[i] c ∧ ∀ q u, c[q]? = some u → w.cell? (a.add (i * k.sz + q)) = some u := by
      intro j
      induction j with
      | zero => exact fun _ => ⟨[], rfl, by simp, fun i hi => absurd hi (by simp)⟩
      | succ j ih =>
        intro hj
        obtain ⟨xs, hxl, hxG, hxs⟩ := ih (by omega)
        obtain ⟨cs', hc1, hc2⟩ := hel j (by omega)
        obtain ⟨x, hK, hG⟩ := he hc2 (hz1 j (by omega))
        refine ⟨xs ++ [x], by simp [hxl], fun y hy => ?_, fun i hi => ?_⟩
        · rcases List.mem_append.1 hy with hy | hy
          · exact hxG y hy
          · rw [List.mem_singleton.1 hy]; exact hG
        · rcases Nat.lt_or_ge i xs.length with hi' | hi'
          · obtain ⟨c, h1, h2, h3⟩ := hxs i hi'
            exact ⟨c, h1, by rw [List.getElem_append_left hi']; exact h2, h3⟩
          · have hij : i = xs.length := by simp at hi; omega
            subst hij
            refine ⟨cs', k.K_len hK, by simpa using hK, fun q u hq => ?_⟩
            obtain ⟨_, hlen, hcell⟩ := World.cells?_some hc1
            rw [← hk, ← hxl] at hcell
            have hq' : q < cs'.length := (List.getElem?_eq_some_iff.1 hq).1
            have := hcell q (by rw [← k.K_len hK]; exact hq')
            rw [Deep.add_add] at this
            rw [this, ← hq]
    obtain ⟨xs, hxl, hxG, hxs⟩ := key len (Nat.le_refl _)
    subst hxl
    refine ⟨xs, ⟨some a, cap, rfl, hl, rfl, by unfold maxLen at hm; omega, fun hp => ⟨a, rfl, fun j p hj => ?_⟩⟩, ?_, hxG⟩
    · obtain ⟨hj', hp'⟩ := List.getElem?_eq_some_iff.1 hj
      obtain ⟨c, h1, h2, h3⟩ := hxs j hj'
      exact ⟨c, h1, by rw [← hp']; exact h2, h3⟩
    · simp only [List.length_map, List.length_range] at hz0
      omega
end
/-- The first argument of a list, opened; the bound goes on. -/
theorem open_argB {H : Type} {enc : TypeId × Value → H} {P : Program} {W : World} {α : Type} {k : Kd α} {G : α → Prop} {t : TypeId} (ho : OpensB P t k G) {ts : List TypeId} {vs : List Value} {ds : List (DataW H)} {p : List MemPlace}
    (h : DataW.TrodAll enc P W 0 (fun _ => true) true (t :: ts) vs ds p) (hz : Rows.uptoBulkAll ds ≤ 1048576) :
    ∃ v vs' ds' p' x, vs = v :: vs' ∧ k.K W x v.cells.toList ∧ G x ∧ DataW.TrodAll enc P W 0 (fun _ => true) true ts vs' ds' p' ∧ Rows.uptoBulkAll ds' ≤ 1048576 := by
  obtain ⟨v, vs', d, ds', p1, q, rfl, rfl, rfl, ⟨m, hm⟩, h2⟩ := trodAll_cons h
  simp only [Rows.uptoBulkAll] at hz
  obtain ⟨x, hK, hG⟩ := ho hm (by omega)
  exact ⟨v, vs', ds', q, x, rfl, hK, hG, h2, by omega⟩
end Rw
end Go.Proofs.YtpkeabggkeecaaaDoor
