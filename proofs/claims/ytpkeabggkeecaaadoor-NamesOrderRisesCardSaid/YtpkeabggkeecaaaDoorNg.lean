/- Layer 5 (names), walks: Join of the package and of its reference, by one plain function. Conditions: the list is read at its address, its strings within the form's reach. -/
import Derived.Test.YtpkeabggkeecaaaDoorNf
import Derived.Test.YtpkeabggkeecaaaDoorNtw
import Derived.Test.YtpkeabggkeecaaaDoorShelf
set_option linter.unusedVariables false
set_option linter.unusedSimpArgs false
namespace Go.Proofs.YtpkeabggkeecaaaDoor
open Go.RowKit Go.Proofs.YtpkeabggkeecaaaDoorW.PrintWords
namespace Nm
open Wd
theorem strs_at {w : World} {ad : Addr} {n : Nat} {xs : List ByteArray} (h : Kd.string.C w (some ad) n xs) (hp : 0 < n) : ∃ b off, ad = ⟨b, off, none⟩ ∧ b < w.heap.size ∧ ∀ (j : Nat) x, xs[j]? = some x → w.cell? ⟨b, off + j, none⟩ = some (.string x) := by
  have hn := Kd.C_len h
  obtain ⟨b, off, spot⟩ := ad
  have cell : ∀ i, i < n → w.cell? ((⟨b, off, spot⟩ : Addr).add i) = some (.string (sx xs i)) := fun i hi => by
    obtain ⟨ad', e, hc⟩ := at_str h i hi
    injection e with e
    rw [e]; exact hc
  have h0 := cell 0 hp
  have hspot : spot = none := by simpa [Addr.add] using World.cell?_spot h0
  subst hspot
  refine ⟨b, off, rfl, ?_, fun j x hj => ?_⟩
  · have := World.block_lt_of_cell? w _ h0
    simpa [Addr.add] using this
  · obtain ⟨hj', hx⟩ := List.getElem?_eq_some_iff.1 hj
    have := cell j (by omega)
    rw [Go.WideShapes.add_plain] at this
    rw [this, ← hx]
    simp [sx, List.getD_eq_getElem?_getD, List.getElem?_eq_getElem hj']
def slash : List UInt8 := [47]
/-- The text of a path. -/
def joinS (xs : List ByteArray) : ByteArray := ⟨(Lib.join (xs.map (·.data.toList)) slash).toArray⟩
theorem comp_size {x : ByteArray} (h : comp x = 0) : x.size ≤ 255 := by
  unfold comp at h
  repeat' split at h
  all_goals first | omega | (exfalso; omega)
theorem firstErr_zero : ∀ {xs : List ByteArray}, firstErr xs = 0 → ∀ x ∈ xs, comp x = 0
  | x :: r, h, y, hy => by
    simp only [firstErr] at h
    split at h
    · rcases List.mem_cons.1 hy with rfl | hy
      · assumption
      · exact firstErr_zero h y hy
    · contradiction
theorem path_zero {xs : List ByteArray} (h : path xs = 0) : 0 < xs.length ∧ xs.length ≤ 16 ∧ ∀ x ∈ xs, comp x = 0 := by
  unfold path at h
  split at h
  · omega
  · split at h
    · omega
    · exact ⟨by omega, by omega, firstErr_zero h⟩
theorem joinTail_len (sep : List UInt8) (m : Nat) : ∀ (r : List (List UInt8)), (∀ x ∈ r, x.length ≤ m) → (Lib.joinTail sep r).length ≤ (sep.length + m) * r.length
  | [], _ => by simp [Lib.joinTail]
  | x :: r, h => by
    have h1 := joinTail_len sep m r (fun y hy => h y (List.mem_cons_of_mem _ hy))
    have h2 := h x List.mem_cons_self
    simp only [Lib.joinTail, List.map_cons, List.flatten_cons, List.length_append, List.length_cons] at h1 ⊢
    rw [Nat.mul_succ]
    omega
theorem joinS_len {xs : List ByteArray} (h : path xs = 0) : (Lib.join (xs.map (·.data.toList)) slash).length ≤ 4352 := by
  obtain ⟨h0, h1, h2⟩ := path_zero h
  match xs, h0 with
  | x :: r, _ =>
    rw [List.map_cons, Lib.join_cons, List.length_append]
    have hx := comp_size (h2 x List.mem_cons_self)
    have ht := joinTail_len slash 255 (r.map (·.data.toList)) (fun y hy => by
      obtain ⟨z, hz, rfl⟩ := List.mem_map.1 hy
      have := comp_size (h2 z (List.mem_cons_of_mem _ hz))
      simpa using this)
    have : x.data.toList.length ≤ 255 := by simpa using hx
    simp [slash] at ht h1 ⊢
    omega
/-- What Join answers. -/
def JoinV (xs : List ByteArray) : Value := if path xs = 0 then .tuple #[.string (joinS xs), .int .i64 0] else .tuple #[.string ⟨#[]⟩, .int .i64 (path xs)]
set_option maxRecDepth 100000 in
theorem join_any (A0 : Option Addr) (c0 : Nat) (xs : List ByteArray) (w : World) (hr : Kd.string.C w A0 xs.length xs) (hc : xs.length ≤ c0) :
    Calls Tryd.prog 10 #[.slice A0 xs.length c0] w fun e w' => e = .returned (JoinV xs) ∧ Below w.heap.size w w' := by
  have HR := Aside0.mk hr
  have HC := Aside0.mk hc
  clear hr hc
  by_cases h : path xs = 0
  · have HF : Hid (JoinV xs = .tuple #[.string (joinS xs), .int .i64 0]) := Lib.hid (by rw [JoinV, if_pos h])
    have hp := path_zero h
    have HL := Lib.hid (joinS_len h)
    have hp1 := hp.1
    have hp2 := hp.2.1
    obtain ⟨ad, e0, _⟩ := at_str HR.out 0 hp1
    subst e0
    obtain ⟨b, off, rfl, hb, hcell⟩ := strs_at HR.out hp1
    have HCE := Lib.hid hcell
    have HPA : Hid (∀ w : World, Kd.string.C w (some ⟨b, off, none⟩) xs.length xs → Calls Tryd.prog 20 #[.slice (some ⟨b, off, none⟩) xs.length c0] w fun e w' => e = .returned (.int .i64 0) ∧ Below w.heap.size w w') := Lib.hid fun w hw => by rw [← h]; exact path_any _ _ _ w hw
    clear h hp hcell
    go_enter Tryd.func10, Tryd.ntmps10
    go_wp2_with fail
    go_at_call 20
    refine (HPA.out _ HR.out).mono ?_
    rintro e w1 ⟨rfl, hb1⟩
    go_wp2_with fail
    go_at_call 21
    refine (Tryd.strings_Join b off c0 xs ⟨#[47]⟩ _ (fun j x hj => cell_stay hb1 (HCE.out j x hj)) (Nat.lt_of_lt_of_le hb hb1.size) (by omega) HC.out (Nat.le_trans HL.out (by omega))).mono ?_
    rintro e w2 ⟨rfl, hb2⟩
    go_wp2
    go_ret2
    exact ⟨by rw [HF.out]; rfl, below_step hb1 hb2⟩
  · have HF : Hid (JoinV xs = .tuple #[.string ⟨#[]⟩, .int .i64 (path xs)]) := Lib.hid (by rw [JoinV, if_neg h])
    have h1 : (path xs == 0) = false := by simp [h]
    have h2 : (path xs != 0) = true := by simp [h]
    generalize hq : path xs = q at h h1 h2 HF
    have HPA : Hid (∀ w : World, Kd.string.C w A0 xs.length xs → Calls Tryd.prog 20 #[.slice A0 xs.length c0] w fun e w' => e = .returned (.int .i64 q) ∧ Below w.heap.size w w') := Lib.hid fun w hw => by rw [← hq]; exact path_any _ _ _ w hw
    clear h hq
    go_enter Tryd.func10, Tryd.ntmps10
    go_wp2_with fail
    go_at_call 20
    refine (HPA.out _ HR.out).mono ?_
    rintro e w1 ⟨rfl, hb1⟩
    go_wp2
    go_ret2
    exact ⟨by rw [HF.out]; rfl, hb1⟩
theorem joinS_snoc (xs : List ByteArray) (k : Nat) (h0 : 0 < k) (hk : k < xs.length) : joinS (xs.take (k + 1)) = (joinS (xs.take k) ++ (⟨#[47]⟩ : ByteArray)) ++ sx xs k := by
  have e : xs.take (k + 1) = xs.take k ++ [sx xs k] := sx_take xs k hk
  apply ByteArray.ext
  apply Array.toList_inj.1
  rw [e]
  simp only [joinS, List.map_append, List.map_cons, List.map_nil, ByteArray.data_append, Array.toList_append]
  obtain ⟨x, r, hx⟩ : ∃ x r, xs.take k = x :: r := by
    match hq : xs.take k with
    | [] => have := congrArg List.length hq; rw [List.length_take, List.length_nil] at this; omega
    | x :: r => exact ⟨x, r, rfl⟩
  rw [hx, List.map_cons, List.cons_append, Lib.join_cons, Lib.join_cons]
  simp [Lib.joinTail, slash]
theorem joinS_one (xs : List ByteArray) (h : 0 < xs.length) : joinS (xs.take 1) = sx xs 0 := by
  match xs, h with
  | x :: r, _ =>
    apply ByteArray.ext
    apply Array.toList_inj.1
    simp [joinS, Lib.join_one, sx]
theorem joinS_take_len {xs : List ByteArray} (h : path xs = 0) (k : Nat) (h0 : 0 < k) : (joinS (xs.take k)).size ≤ 4352 := by
  have hp := path_zero h
  have hp1 := hp.1
  have hp2 := hp.2.1
  have h' : path (xs.take k) = 0 := by
    have hl : (xs.take k).length = min k xs.length := List.length_take
    have hf : ∀ (ys : List ByteArray), (∀ y ∈ ys, comp y = 0) → firstErr ys = 0 := by
      intro ys
      induction ys with
      | nil => exact fun _ => rfl
      | cons y ys ih => intro hy; simp only [firstErr]; rw [if_pos (hy y List.mem_cons_self)]; exact ih (fun z hz => hy z (List.mem_cons_of_mem _ hz))
    unfold path
    rw [if_neg (by omega), if_neg (by omega)]
    exact hf _ (fun y hy => hp.2.2 y (List.mem_of_mem_take hy))
  have := joinS_len h'
  simpa [joinS, ByteArray.size] using this
end Nm
end Go.Proofs.YtpkeabggkeecaaaDoor
