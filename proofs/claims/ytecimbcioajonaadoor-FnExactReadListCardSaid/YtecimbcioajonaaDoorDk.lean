/- Copies and comparisons of lists of integers, plainly and walked. -/
import Derived.Test.YtecimbcioajonaaDoorPtoInt64Sx1
import Derived.Test.YtecimbcioajonaaDoorPeqInt64Sx1
import Derived.Test.YtecimbcioajonaaDoorDd
namespace Go.Proofs.YtecimbcioajonaaDoor
set_option maxRecDepth 100000
set_option linter.unusedVariables false
open Go.Lib Go.RowKit Go.Proofs.YtecimbcioajonaaDoorW.PrintWords
abbrev CI (w : World) (A : Option Addr) (l : List Int) : Prop := (Kd.int .i64).C w A l.length l

open Go.Proofs.YtecimbcioajonaaDoor.PtoInt64S in
theorem ev_to_loop (l : List Int) (hl : l.length ≤ 1048576) : ∀ (d i : Nat) (o : List Int), i + d = l.length → o.length = l.length → (o.take i = l.take i) → Ev (fun k => laws_toInt64S.l0 k l o (i : Int)) l := by
  intro d
  induction d with
  | zero =>
    intro i o hi ho ht
    have e : o = l := by rw [List.take_of_length_le (by omega), List.take_of_length_le (by omega)] at ht; exact ht
    refine Ev.step (f := fun _ => some l) (fun k => ?_) (Ev.now _)
    simp only [laws_toInt64S.l0]
    rw [if_neg (by omega), e]
  | succ d ih =>
    intro i o hi ho ht
    have hlt : i < l.length := by omega
    have hw : wrap64 ((i : Int) + 1) = ((i + 1 : Nat) : Int) := by rw [IntWalk.wrap64_in _ (by omega)]; omega
    have hr : rd l (i : Int) = l[i] := by unfold rd; simp [hlt]
    refine Ev.step (fun k => ?_) (ih (i + 1) (o.set i l[i]) (by omega) (by simpa using ho) ?_)
    · simp only [laws_toInt64S.l0]
      rw [if_pos (by omega), if_pos (by omega), if_pos (by omega), hr, hw]
      rfl
    · apply List.ext_getElem?
      intro j
      by_cases hj : j < i
      · have := congrArg (·[j]?) ht
        simp only [List.getElem?_take, hj, if_true] at this
        simp only [List.getElem?_take, show j < i + 1 by omega, if_true, List.getElem?_set, show ¬ i = j by omega, if_false, this]
      · by_cases hj2 : j = i
        · subst hj2
          simp [ho, hlt]
        · simp only [List.getElem?_take, show ¬ j < i + 1 by omega, if_false]
open Go.Proofs.YtecimbcioajonaaDoor.PtoInt64S in
theorem laws_toInt64S' (A : Option Addr) (c : Nat) (l : List Int) (hl : l.length ≤ 1048576) (w : World) (hr : CI w A l) (hc : l.length ≤ c) :
    Calls Tryd.prog 15 #[.slice A l.length c] w fun e w' => ∃ A' c', e = .returned (.slice A' l.length c') ∧ CI w' A' l ∧ l.length ≤ c' ∧ Below w.heap.size w w' := by
  have h : Ev (fun k => laws_toInt64S.f k l) l := by
    refine Ev.congr (f := fun k => laws_toInt64S.l0 k l (List.replicate l.length 0) 0) (fun k => ?_) (ev_to_loop l hl l.length 0 _ (by omega) (by simp) rfl)
    unfold laws_toInt64S.f
    rw [if_pos (by omega), if_pos (by omega)]
    rfl
  obtain ⟨k, hk⟩ := h.rounds
  refine (laws_toInt64S.calls k A c l l w hr hc hk).mono ?_
  rintro _ w' ⟨v, rfl, hR, hB⟩
  obtain ⟨A', c', rfl, h1, h2⟩ := Kd.R_reads hR
  exact ⟨A', c', rfl, h2, h1, hB⟩

open Go.Proofs.YtecimbcioajonaaDoor.PeqInt64S in
theorem ev_eq_loop (l : List Int) (hl : l.length ≤ 1048576) : ∀ (d i : Nat), i + d = l.length → Ev (fun k => laws_eqInt64S.l0 k l l (i : Int)) true := by
  intro d
  induction d with
  | zero =>
    intro i hi
    refine Ev.step (f := fun _ => some true) (fun k => ?_) (Ev.now _)
    simp only [laws_eqInt64S.l0]
    rw [if_neg (by omega)]
  | succ d ih =>
    intro i hi
    have hw : wrap64 ((i : Int) + 1) = ((i + 1 : Nat) : Int) := by rw [IntWalk.wrap64_in _ (by omega)]; omega
    refine Ev.step (fun k => ?_) (ih (i + 1) (by omega))
    simp only [laws_eqInt64S.l0]
    rw [if_pos (by omega), if_pos (by omega), if_pos (by omega), if_pos trivial, hw]
open Go.Proofs.YtecimbcioajonaaDoor.PeqInt64S in
theorem laws_eqInt64S' (A : Option Addr) (c : Nat) (B : Option Addr) (d : Nat) (l : List Int) (hl : l.length ≤ 1048576) (w : World) (hr : CI w A l) (hc : l.length ≤ c) (hs : CI w B l) (hd : l.length ≤ d) :
    Calls Tryd.prog 17 #[.slice A l.length c, .slice B l.length d] w (RetB (.bool true) w) := by
  have h : Ev (fun k => laws_eqInt64S.f k l l) true := by
    refine Ev.congr (f := fun k => laws_eqInt64S.l0 k l l 0) (fun k => ?_) (ev_eq_loop l hl l.length 0 (by omega))
    unfold laws_eqInt64S.f
    rw [if_pos rfl]
  obtain ⟨k, hk⟩ := h.rounds
  exact (laws_eqInt64S.calls k A c l B d l true w hr hc hs hd hk).mono fun e w' ⟨h1, h2⟩ => ⟨h1, h2.below⟩
end Go.Proofs.YtecimbcioajonaaDoor
