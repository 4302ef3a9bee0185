/- Rows of laws: what an argument's reading as data says of its value's cells (Opens), and how a walk that ends in 'true, and all that was there is as it was' becomes the row's contract. No conditions. -/
import Derived.Test.YtjeeakhgjcbhaaaRows
import Derived.Test.YtjeeakhgjcbhaaaWWords
import Derived.WalkKit
import Derived.ProofKit
import Derived.OpenShut
import Derived.ShutString
import Derived.ChangeOld
import Derived.Below
import Derived.SizedLaws
import Derived.Deep.Slices
set_option linter.unusedVariables false
set_option linter.unusedSimpArgs false
namespace Go.Proofs.Ytjeeakhgjcbhaaa
open Go.ChangeShapes Go.WideShapes Go.ChangeAt Go.RowKit Go.Proofs.YtjeeakhgjcbhaaaW.PrintWords
namespace Rw
/-- Whatever reads as data at type t, within reach, has cells that say a value of kind k, for which G holds. -/
def Opens (P : Program) (t : TypeId) {α : Type} (k : Kd α) (G : α → Prop) : Prop :=
  ∀ {H : Type} {enc : TypeId × Value → H} {w : World} {base : Nat} {spare : Nat → Bool} {held : Bool} {fuel : Nat} {cs : List Value} {d : DataW H} {pl : List MemPlace},
    DataW.trod enc P w base spare held fuel t cs = some (d, pl) → (∀ n ∈ d.weights P t, n ≤ reachBytes) → ∃ x, k.K w x cs ∧ G x
section
variable {P : Program} {t e : TypeId}
theorem opens_int {k : IntKind} (hu : P.underlying t = some (.int k)) : Opens P t (Kd.int k) (fun n => (Lit.int k n).wf = true) := by
  intro H enc w base spare held fuel cs d pl h _
  obtain ⟨n, rfl, _, hw⟩ := DataW.trod_int hu h
  exact ⟨n, rfl, hw⟩
theorem opens_bool (hu : P.underlying t = some .bool) : Opens P t Kd.bool (fun _ => True) := by
  intro H enc w base spare held fuel cs d pl h _
  obtain ⟨b, rfl, _⟩ := DataW.trod_bool hu h
  exact ⟨b, rfl, trivial⟩
theorem opens_string (hu : P.underlying t = some .string) : Opens P t Kd.string (fun s => s.size ≤ reachBytes) := by
  intro H enc w base spare held fuel cs d pl h hz
  obtain ⟨s, rfl, hx, hs⟩ := DataW.trod_string hu h
  simp only [Prod.mk.injEq] at hx
  obtain ⟨rfl, rfl⟩ := hx
  refine ⟨s, rfl, ?_⟩
  have := hz s.data.toList.length (by simp [DataW.weights])
  simpa using this
theorem weightsAll_mem {H : Type} {P : Program} {e : TypeId} : ∀ {l : List (DataW H)} {d : DataW H}, d ∈ l → ∀ n ∈ d.weights P e, n ∈ DataW.weightsAll P e l
  | d0 :: l, d, hd, n, hn => by
    simp only [DataW.weightsAll, List.mem_append]
    rcases List.mem_cons.1 hd with rfl | hd
    · exact .inl hn
    · exact .inr (weightsAll_mem hd n hn)
theorem opens_slice {α : Type} {k : Kd α} {G : α → Prop} (hu : P.underlying t = some (.slice e)) (hk : k.sz = P.cellsOf e) (he : Opens P e k G) :
    Opens P t (Kd.slice e k) (fun xs => xs.length * P.bytesOf e ≤ reachBytes ∧ ∀ x ∈ xs, G x) := by
  intro H enc w base spare held fuel cs d pl h hz
  rcases Deep.open_slice hu h with ⟨rfl, hx⟩ | ⟨a, len, cap, m, n, D, Pl, rfl, hb, hl, hm, hmm, hx, hel⟩
  · exact ⟨[], ⟨none, 0, rfl, Nat.le_refl _, Kd.C_nil _ _⟩, by simp, by simp⟩
  · simp only [Prod.mk.injEq] at hx
    obtain ⟨rfl, rfl⟩ := hx
    have hlm : len ≤ m := by rw [hmm]; split <;> omega
    have hz1 : ∀ i, i < len → ∀ q ∈ (D i).weights P e, q ≤ reachBytes := fun i hi q hq => hz q (by
      simp only [DataW.weights, hu, List.mem_cons, List.mem_append]
      exact .inr (.inl (weightsAll_mem (List.mem_map.2 ⟨i, List.mem_range.2 hi, rfl⟩) q hq)))
    have hz0 := hz (((List.range len).map D).length + ((List.range (m - len)).map fun j => D (len + j)).length |>.mul (P.bytesOf e)) (by
      simp only [DataW.weights, hu, List.mem_cons]
      exact .inl rfl)
    have key : ∀ j, j ≤ len → ∃ xs : List α, xs.length = j ∧ (∀ x ∈ xs, G x) ∧ ∀ i (hi : i < xs.length), ∃ c, c.length = k.sz ∧ k.K w xs[i] c ∧ ∀ q u, c[q]? = some u → w.cell? (a.add (i * k.sz + q)) = some u := by
      intro j
      induction j with
      | zero => exact fun _ => ⟨[], rfl, by simp, fun i hi => absurd hi (by simp)⟩
      | succ j ih =>
        intro hj
        obtain ⟨xs, hxl, hxG, hxs⟩ := ih (by omega)
        obtain ⟨cs', hc1, hc2⟩ := hel j (by omega)
        obtain ⟨x, hK, hG⟩ := he hc2 (hz1 j (by omega))
        refine ⟨xs ++ [x], by simp [hxl], fun y hy => ?_, fun i hi => ?_⟩
        · rcases List.mem_append.1 hy with hy | hy
          · exact hxG y hy
          · rw [List.mem_singleton.1 hy]; exact hG
        · rcases Nat.lt_or_ge i xs.length with hi' | hi'
          · obtain ⟨c, h1, h2, h3⟩ := hxs i hi'
            exact ⟨c, h1, by rw [List.getElem_append_left hi']; exact h2, h3⟩
          · have hij : i = xs.length := by simp at hi; omega
            subst hij
            refine ⟨cs', k.K_len hK, by simpa using hK, fun q u hq => ?_⟩
            obtain ⟨_, hlen, hcell⟩ := World.cells?_some hc1
            rw [← hk, ← hxl] at hcell
            have hq' : q < cs'.length := (List.getElem?_eq_some_iff.1 hq).1
            have := hcell q (by rw [← k.K_len hK]; exact hq')
            rw [Deep.add_add] at this
            rw [this, ← hq]
    obtain ⟨xs, hxl, hxG, hxs⟩ := key len (Nat.le_refl _)
    subst hxl
    refine ⟨xs, ⟨some a, cap, rfl, hl, rfl, by unfold maxLen at hm; omega, fun hp => ⟨a, rfl, fun j p hj => ?_⟩⟩, ?_, hxG⟩
    · obtain ⟨hj', hp'⟩ := List.getElem?_eq_some_iff.1 hj
      obtain ⟨c, h1, h2, h3⟩ := hxs j hj'
      exact ⟨c, h1, by rw [← hp']; exact h2, h3⟩
    · simp only [List.length_map, List.length_range, Nat.mul_eq] at hz0
      exact Nat.le_trans (Nat.mul_le_mul_right _ (Nat.le_add_right _ _)) hz0
end
/-- All arguments read again behind a call that left all that was there as it was. -/
theorem trodAll_below {H : Type} {enc : TypeId × Value → H} {P : Program} (hl : laidOutB P = true) {W W' : World} (hb : Below W.heap.size W W') :
    ∀ {ts : List TypeId} {vs : List Value} {ds : List (DataW H)} {ps : List MemPlace}, ts.all (fun t => P.readableRec t && decide (t < P.types.size)) = true →
      DataW.TrodAll enc P W 0 (fun _ => true) true ts vs ds ps → DataW.TrodAll enc P W' 0 (fun b => decide (b < W.heap.size)) true ts vs ds ps
  | [], _, _, _, _, h => by
    obtain ⟨rfl, rfl, rfl⟩ := trodAll_nil h
    exact trodAll_mk0
  | t :: ts, _, _, _, hts, h => by
    obtain ⟨v, vs, d, ds, p, q, rfl, rfl, rfl, h1, h2⟩ := trodAll_cons h
    simp only [List.all_cons, Bool.and_eq_true, decide_eq_true_eq] at hts
    refine trodAll_cons_mk (Below.trod hl hts.1.1 hts.1.2 h1 hb ?_) (trodAll_below hl hb hts.2 h2)
    obtain ⟨m, hm⟩ := h1
    exact DataW.trod_lt m _ _ _ hm
/-- THE ROW'S CONTRACT out of a walk. -/
theorem lifted_law {H : Type} {enc : TypeId × Value → H} {C : Checked} {os : Os} {f : FuncId} {fn : Func} {s : ChangeSpec} {conds : List PathCond} {tb : TypeId}
    (own : ownKnob C.prog.godebug = none) (started : os.Started) (noInit : C.prog.inits.idxOf? f = none) (hfn : C.prog.funcs[f]? = some fn)
    (witness : ∃ (w : World) (tape : Tape) (i : Input), w.os = os ∧ (w.forCall tape i).Shaped C.prog ∧ i.vars = [] ∧ Input.okWide C.prog (w.forCall tape i) .any w.heap.size f i ∧
      s.pre6 enc C.prog fn conds false (w.forCall tape i).memory i.args ∧ Assume.holds {} C.prog (lone (Frame.enter C.prog f i.args .normal) [] (w.forCall tape i)))
    (hl : laidOutB C.prog = true) (hps : fn.params.toList.all (fun t => C.prog.readableRec t && decide (t < C.prog.types.size)) = true)
    (hres : fn.resultTypes = #[tb]) (htb : C.prog.underlying tb = some .bool) (hvars : s.vars = [])
    (hspec : ∀ ds : List (DataW H), ds.length = fn.params.toList.length → s.fn H ds = { results := [.lit (.bool true)], args := ds })
    (walk : ∀ (W : World) (args : Array Value) (ds : List (DataW H)) (p : List MemPlace) (base : Nat),
      (∀ (j : Nat) t v, fn.params.toList[j]? = some t → args.toList[j]? = some v → Value.okWide C.prog W .any base t v) →
      DataW.TrodAll enc C.prog W 0 (fun _ => true) true fn.params.toList args.toList ds p → (∀ n ∈ DataW.weightsEach C.prog fn.params.toList ds, n ≤ reachBytes) →
      Calls C.prog f args W fun e W' => e = .returned (.bool true) ∧ Below W.heap.size W W') :
    ReturnsInHanded {} C os f .any (s.pre6 enc C.prog fn conds false) (s.post enc C.prog fn false true false false) := by
  refine returnsInHanded_of_change_sized own started noInit hfn witness ?_
  intro W base args ds gs before hval hW _ hsz _
  have hW' := hW
  obtain ⟨p, q, hA, hV, rfl, _, _⟩ := hW
  rw [hvars] at hV
  obtain ⟨rfl, rfl⟩ := trodVars_none hV
  have hvt : s.plain.varTypes C.prog = [] := by simp [ChangeSpec.plain, DataSpec.varTypes, hvars]
  have hlen : ds.length = fn.params.toList.length := by
    have : ∀ {ts : List TypeId} {vs : List Value} {ds : List (DataW H)} {ps : List MemPlace}, DataW.TrodAll enc C.prog W 0 (fun _ => true) true ts vs ds ps → ds.length = ts.length := by
      intro ts
      induction ts with
      | nil => intro vs ds ps h; obtain ⟨rfl, rfl, rfl⟩ := trodAll_nil h; rfl
      | cons t ts ih => intro vs ds ps h; obtain ⟨v, vs, d, ds, p, q, rfl, rfl, rfl, h1, h2⟩ := trodAll_cons h; simp [ih h2]
    exact this hA
  rw [hvt, List.append_nil, List.append_nil] at hsz
  have hsp := hspec ds hlen
  refine (walk W args ds p base (fun j t v ht hv => hval j t v (by simpa using ht) (by simpa using hv)) hA (by simpa using hsz)).mono fun e W' ⟨he, bel⟩ => ⟨_, he, ?_⟩
  refine ⟨ds, [], _, [], p, [], hW', ?_, ?_, ?_, bel.frame _, fun h => by cases h⟩
  · rw [List.append_nil, hsp, hres]
    exact trodAll_mk1 (shut_bool htb _)
  · rw [List.append_nil, hsp]
    exact trodAll_below hl bel hps hA
  · rw [List.append_nil, hsp, hvars]
    rfl
/-- The first argument of a list, opened. -/
theorem open_arg {H : Type} {enc : TypeId × Value → H} {P : Program} {W : World} {α : Type} {k : Kd α} {G : α → Prop} {t : TypeId} (ho : Opens P t k G) {ts : List TypeId} {vs : List Value} {ds : List (DataW H)} {p : List MemPlace}
    (h : DataW.TrodAll enc P W 0 (fun _ => true) true (t :: ts) vs ds p) (hz : ∀ n ∈ DataW.weightsEach P (t :: ts) ds, n ≤ reachBytes) :
    ∃ v vs' ds' p' x, vs = v :: vs' ∧ k.K W x v.cells.toList ∧ G x ∧ DataW.TrodAll enc P W 0 (fun _ => true) true ts vs' ds' p' ∧ (∀ n ∈ DataW.weightsEach P ts ds', n ≤ reachBytes) := by
  obtain ⟨v, vs', d, ds', p1, q, rfl, rfl, rfl, ⟨m, hm⟩, h2⟩ := trodAll_cons h
  obtain ⟨x, hK, hG⟩ := ho hm (fun n hn => hz n (by simp [DataW.weightsEach, hn]))
  exact ⟨v, vs', ds', q, x, rfl, hK, hG, h2, fun n hn => hz n (by simp [DataW.weightsEach, hn])⟩
theorem open_end {H : Type} {enc : TypeId × Value → H} {P : Program} {W : World} {args : Array Value} {vs : List Value} {ds : List (DataW H)} {p : List MemPlace} (h : DataW.TrodAll enc P W 0 (fun _ => true) true [] vs ds p) : vs = [] := (trodAll_nil h).1
end Rw
end Go.Proofs.Ytjeeakhgjcbhaaa
