/- What the reference's functions on decimals and lists come to (over the printed functions), plainly. -/
import Derived.Test.YtecimbcioajonaaDoorDa
import Derived.Test.YtecimbcioajonaaDoorPReadListx1
import Derived.Test.YtecimbcioajonaaDoorPReadListx2
namespace Go.Proofs.YtecimbcioajonaaDoor
set_option linter.unusedVariables false
open Go.Lib Go.RowKit Go.Proofs.YtecimbcioajonaaDoorW.PrintWords Go.Proofs.YtecimbcioajonaaDoorW.PrintLast Go.Proofs.YtecimbcioajonaaDoorW.PrintMore Go.Proofs.YtecimbcioajonaaDoor.PReadList

def dgL (u : Nat) : List Int := (decDigits u).map fun c => (c.toNat : Int)
theorem dgL_small {u : Nat} (h : u < 10) : dgL u = [((48 + u : Nat) : Int)] := by
  unfold dgL; rw [decDigits, dif_pos h, List.map_singleton, digit_toNat h]
theorem dgL_big {u : Nat} (h : ¬ u < 10) : dgL u = dgL (u / 10) ++ [((48 + u % 10 : Nat) : Int)] := by
  unfold dgL
  conv => lhs; rw [decDigits, dif_neg h]
  rw [List.map_append, List.map_singleton, digit_toNat (by omega)]
theorem dgL_len (u : Nat) : (dgL u).length = (decDigits u).length := by unfold dgL; simp
theorem strOf_dgL (u : Nat) : strOfNums (dgL u) = ofL (decDigits u) := by
  unfold strOfNums dgL ofL
  congr 2
  rw [List.map_map]
  conv => rhs; rw [← List.map_id (decDigits u)]
  apply List.map_congr_left
  intro c _
  simp
theorem strOf_neg (u : Nat) : strOfNums (45 :: dgL u) = ofL (45 :: decDigits u) := by
  have h := congrArg (fun s => s.data.toList) (strOf_dgL u)
  unfold strOfNums ofL at h ⊢
  congr 2
  rw [List.map_cons]
  congr 1
def decFin (n : Int) (l : List Int) : ByteArray := if n < 0 then strOfNums (45 :: l) else strOfNums l
theorem dec_end (n x4 : Int) (x3 : List Int) (hl : x3.length ≤ 100) : Ev (fun k => spec_l01Dec.j1 k n x3 x4 false) (decFin n x3) := by
  refine Ev.step (f := fun _ => some (decFin n x3)) (fun k => ?_) (Ev.now _)
  simp only [spec_l01Dec.j1, Bool.false_eq_true, if_false]
  unfold decFin
  by_cases h : n < 0
  · rw [if_pos h, if_pos h]
    simp only [Option.bind_some]
    rw [if_pos (by simp; omega)]
    rfl
  · rw [if_neg h, if_neg h]
theorem dec_run (n : Int) : ∀ (u : Nat) (x4 : Int) (x3 : List Int), (x4 = (u : Int) ∨ x4 = -(u : Int)) → u ≤ 9223372036854775808 → x3.length + (decDigits u).length ≤ 100 → Ev (fun k => spec_l01Dec.j1 k n x3 x4 true) (decFin n (dgL u ++ x3)) := by
  intro u
  induction u using Nat.strongRecOn with
  | ind u ih =>
    intro x4 x3 hx hu hl
    have hd : ∃ c r, decDigits u = c :: r := ⟨_, _, (dec_head u).choose_spec.choose_spec.1⟩
    have hl1 : 1 ≤ (decDigits u).length := by obtain ⟨c, r, e⟩ := hd; rw [e]; simp
    have key : Ev (fun k => spec_l01Dec.l0 k n ([((48 + u % 10 : Nat) : Int)] ++ x3) (wrap64 (Int.tdiv x4 10))) (decFin n (dgL u ++ x3)) := by
      have ht : ∃ y : Int, wrap64 (Int.tdiv x4 10) = y ∧ (y = ((u / 10 : Nat) : Int) ∨ y = -((u / 10 : Nat) : Int)) := by
        rcases hx with rfl | rfl
        · exact ⟨((u / 10 : Nat) : Int), by rw [show Int.tdiv (u : Int) 10 = ((u / 10 : Nat) : Int) from rfl]; exact IntWalk.wrap64_in _ (by omega), .inl rfl⟩
        · exact ⟨-((u / 10 : Nat) : Int), by rw [Int.neg_tdiv, show Int.tdiv (u : Int) 10 = ((u / 10 : Nat) : Int) from rfl]; exact IntWalk.wrap64_in _ (by omega), .inr rfl⟩
      obtain ⟨y, hy, hyu⟩ := ht
      rw [hy]
      by_cases h10 : u < 10
      · have y0 : y = 0 := by rcases hyu with e | e <;> omega
        subst y0
        rw [dgL_small h10, show u % 10 = u by omega]
        refine Ev.step (fun k => ?_) (dec_end n 0 ([((48 + u : Nat) : Int)] ++ x3) (by simp; omega))
        simp only [spec_l01Dec.l0]
        rw [if_neg (by simp; omega)]
        rfl
      · have e := dgL_big h10
        have el : (decDigits u).length = (decDigits (u / 10)).length + 1 := by rw [← dgL_len, ← dgL_len, e]; simp
        rw [e, List.append_assoc]
        refine Ev.step (fun k => ?_) (ih (u / 10) (by omega) y ([((48 + u % 10 : Nat) : Int)] ++ x3) hyu (by omega) (by simp; omega))
        simp only [spec_l01Dec.l0]
        rw [if_neg (by simp; omega)]
        have : (y != 0) = true := by simp; rcases hyu with e | e <;> omega
        rw [this]
    have hm : ∀ f : List Int → Option ByteArray, ((some ([((48 + u % 10 : Nat) : Int)] : List Int)).bind fun y => if y.length + x3.length < 140737488355328 then f (y ++ x3) else none) = f ([((48 + u % 10 : Nat) : Int)] ++ x3) := by
      intro f
      simp only [Option.bind_some]
      rw [if_pos (by simp; omega)]
    refine Ev.step (fun k => ?_) key
    simp only [spec_l01Dec.j1, if_true]
    rcases hx with rfl | rfl
    · rw [show Int.tmod (u : Int) 10 = ((u % 10 : Nat) : Int) from rfl, if_neg (by omega)]
      have e1 : wrap64 (48 + ((u % 10 : Nat) : Int)) % 256 = ((48 + u % 10 : Nat) : Int) := by rw [IntWalk.wrap64_in _ (by omega)]; omega
      rw [e1]
      exact hm (fun l => spec_l01Dec.l0 k n l _)
    · rw [Int.neg_tmod, show Int.tmod (u : Int) 10 = ((u % 10 : Nat) : Int) from rfl]
      by_cases h0 : u % 10 = 0
      · rw [if_neg (by omega)]
        have e1 : wrap64 (48 + -((u % 10 : Nat) : Int)) % 256 = ((48 + u % 10 : Nat) : Int) := by rw [IntWalk.wrap64_in _ (by omega)]; omega
        rw [e1]
        exact hm (fun l => spec_l01Dec.l0 k n l _)
      · rw [if_pos (by omega)]
        have e1 : wrap64 (48 + wrap64 (-(-((u % 10 : Nat) : Int)))) % 256 = ((48 + u % 10 : Nat) : Int) := by rw [IntWalk.wrap64_in (- -_) (by omega), IntWalk.wrap64_in _ (by omega)]; omega
        rw [e1]
        exact hm (fun l => spec_l01Dec.l0 k n l _)
theorem ev_Dec (n : Int) (h1 : -9223372036854775808 ≤ n) (h2 : n ≤ 9223372036854775807) : Ev (fun k => spec_l01Dec.f k n) (ofL (itoa n)) := by
  have e : ofL (itoa n) = decFin n (dgL n.natAbs ++ []) := by
    rw [List.append_nil]
    unfold decFin itoa
    by_cases h : n < 0
    · rw [if_pos h, if_pos h, strOf_neg]
    · rw [if_neg h, if_neg h, strOf_dgL, show n.toNat = n.natAbs by omega]
  rw [e]
  have hl : (decDigits n.natAbs).length ≤ 20 := dec_len n.natAbs 19 (by have : (10 : Nat) ^ (19 + 1) = 100000000000000000000 := by decide
                                                                        omega)
  refine Ev.step (fun k => ?_) (dec_run n n.natAbs n [] (by omega) (by omega) (by simp; omega))
  show spec_l01Dec.l0 (k + 1) n [] n = _
  simp only [spec_l01Dec.l0]
  rw [if_pos (by simp)]

theorem bt_get (s : ByteArray) (i : Nat) (h : i < s.data.toList.length) : bt s (i : Int) = ((s.data.toList[i]).toNat : Int) := by
  have h' : (i : Int).toNat < s.size := by rw [← data_length]; simpa using h
  rw [← bt_at s i h']
  rfl
theorem ev_In (x : Int) : spec_l00In.f x (-1000000000000000) 1000000000000000 = some (decide (-1000000000000000 ≤ x ∧ x ≤ 1000000000000000)) := by
  unfold spec_l00In.f
  by_cases h : x ≥ -1000000000000000
  · rw [if_pos h]; congr 1; simp [show -1000000000000000 ≤ x from h]
  · rw [if_neg h]; congr 1; simp [show ¬ (-1000000000000000 ≤ x) from h]
theorem ev_j2 (s : ByteArray) (x : Int) (hx : x = rdN s.data.toList) (hs : 1 ≤ s.size ∧ s.size ≤ 17) (h1 : -9223372036854775808 ≤ x) (h2 : x ≤ 9223372036854775807) : Ev (fun k => spec_l01Value.j2 k s x) ((valD s).getD 0, (valD s).isSome) := by
  by_cases hin : -1000000000000000 ≤ x ∧ x ≤ 1000000000000000
  · by_cases he : itoa x = s.data.toList
    · have hv : valD s = some x := valD_iff.2 ⟨hin.1, hin.2, he⟩
      rw [hv]
      refine Ev.step (f := fun k => (spec_l01Dec.f k x).bind fun t => if t.toList = s.toList then some (x, true) else some (0, false)) (fun k => ?_) ?_
      · simp only [spec_l01Value.j2]
        rw [ev_In, decide_eq_true hin]
        rfl
      · refine Ev.bind (ev_Dec x h1 h2) ?_
        rw [show (ofL (itoa x)).toList = s.toList by rw [he, ofL_of]]
        simp only [if_true]
        exact Ev.now _
    · have hv : valD s = none := by
        cases hv : valD s with
        | none => rfl
        | some n =>
          obtain ⟨e1, _, _, _, _, e2⟩ := valD_some hv
          rw [← hx] at e1
          rw [e1] at he
          exact absurd e2 he
      rw [hv]
      refine Ev.step (f := fun k => (spec_l01Dec.f k x).bind fun t => if t.toList = s.toList then some (x, true) else some (0, false)) (fun k => ?_) ?_
      · simp only [spec_l01Value.j2]
        rw [ev_In, decide_eq_true hin]
        rfl
      · refine Ev.bind (ev_Dec x h1 h2) ?_
        have hne : ¬ (ofL (itoa x)).toList = s.toList := by
          intro e
          rw [ByteArray.toList_eq, ByteArray.toList_eq] at e
          exact he e
        simp only [hne, if_false]
        exact Ev.now _
  · have hv : valD s = none := by
      cases hv : valD s with
      | none => rfl
      | some n =>
        obtain ⟨e1, _, _, e3, e4, _⟩ := valD_some hv
        rw [← hx] at e1
        rw [e1] at hin
        exact absurd ⟨e3, e4⟩ hin
    rw [hv]
    refine Ev.step (f := fun k => some (0, false)) (fun k => ?_) (Ev.now _)
    simp only [spec_l01Value.j2]
    rw [ev_In, decide_eq_false hin]
    rfl
end Go.Proofs.YtecimbcioajonaaDoor
