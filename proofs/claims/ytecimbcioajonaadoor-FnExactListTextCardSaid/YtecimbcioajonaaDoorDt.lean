/- The reference's texts of lists, plainly. -/
import Derived.Test.YtecimbcioajonaaDoorDb
import Derived.Test.YtecimbcioajonaaDoorPListTextx1
namespace Go.Proofs.YtecimbcioajonaaDoor.LT
set_option linter.unusedVariables false
open Go.Lib Go.RowKit Go.Proofs.YtecimbcioajonaaDoorW.PrintWords Go.Proofs.YtecimbcioajonaaDoorW.PrintLast Go.Proofs.YtecimbcioajonaaDoorW.PrintMore Go.Proofs.YtecimbcioajonaaDoor.PListText

theorem dec_end (n x4 : Int) (x3 : List Int) (hl : x3.length ≤ 100) : Ev (fun k => spec_l01Dec.j1 k n x3 x4 false) (decFin n x3) := by
  refine Ev.step (f := fun _ => some (decFin n x3)) (fun k => ?_) (Ev.now _)
  simp only [spec_l01Dec.j1, Bool.false_eq_true, if_false]
  unfold decFin
  by_cases h : n < 0
  · rw [if_pos h, if_pos h]
    simp only [Option.bind_some]
    rw [if_pos (by simp; omega)]
    rfl
  · rw [if_neg h, if_neg h]
theorem dec_run (n : Int) : ∀ (u : Nat) (x4 : Int) (x3 : List Int), (x4 = (u : Int) ∨ x4 = -(u : Int)) → u ≤ 9223372036854775808 → x3.length + (decDigits u).length ≤ 100 → Ev (fun k => spec_l01Dec.j1 k n x3 x4 true) (decFin n (dgL u ++ x3)) := by
  intro u
  induction u using Nat.strongRecOn with
  | ind u ih =>
    intro x4 x3 hx hu hl
    have hd : ∃ c r, decDigits u = c :: r := ⟨_, _, (dec_head u).choose_spec.choose_spec.1⟩
    have hl1 : 1 ≤ (decDigits u).length := by obtain ⟨c, r, e⟩ := hd; rw [e]; simp
    have key : Ev (fun k => spec_l01Dec.l0 k n ([((48 + u % 10 : Nat) : Int)] ++ x3) (wrap64 (Int.tdiv x4 10))) (decFin n (dgL u ++ x3)) := by
      have ht : ∃ y : Int, wrap64 (Int.tdiv x4 10) = y ∧ (y = ((u / 10 : Nat) : Int) ∨ y = -((u / 10 : Nat) : Int)) := by
        rcases hx with rfl | rfl
        · exact ⟨((u / 10 : Nat) : Int), by rw [show Int.tdiv (u : Int) 10 = ((u / 10 : Nat) : Int) from rfl]; exact IntWalk.wrap64_in _ (by omega), .inl rfl⟩
        · exact ⟨-((u / 10 : Nat) : Int), by rw [Int.neg_tdiv, show Int.tdiv (u : Int) 10 = ((u / 10 : Nat) : Int) from rfl]; exact IntWalk.wrap64_in _ (by omega), .inr rfl⟩
      obtain ⟨y, hy, hyu⟩ := ht
      rw [hy]
      by_cases h10 : u < 10
      · have y0 : y = 0 := by rcases hyu with e | e <;> omega
        subst y0
        rw [dgL_small h10, show u % 10 = u by omega]
        refine Ev.step (fun k => ?_) (dec_end n 0 ([((48 + u : Nat) : Int)] ++ x3) (by simp; omega))
        simp only [spec_l01Dec.l0]
        rw [if_neg (by simp; omega)]
        rfl
      · have e := dgL_big h10
        have el : (decDigits u).length = (decDigits (u / 10)).length + 1 := by rw [← dgL_len, ← dgL_len, e]; simp
        rw [e, List.append_assoc]
        refine Ev.step (fun k => ?_) (ih (u / 10) (by omega) y ([((48 + u % 10 : Nat) : Int)] ++ x3) hyu (by omega) (by simp; omega))
        simp only [spec_l01Dec.l0]
        rw [if_neg (by simp; omega)]
        have : (y != 0) = true := by simp; rcases hyu with e | e <;> omega
        rw [this]
    have hm : ∀ f : List Int → Option ByteArray, ((some ([((48 + u % 10 : Nat) : Int)] : List Int)).bind fun y => if y.length + x3.length < 140737488355328 then f (y ++ x3) else none) = f ([((48 + u % 10 : Nat) : Int)] ++ x3) := by
      intro f
      simp only [Option.bind_some]
      rw [if_pos (by simp; omega)]
    refine Ev.step (fun k => ?_) key
    simp only [spec_l01Dec.j1, if_true]
    rcases hx with rfl | rfl
    · rw [show Int.tmod (u : Int) 10 = ((u % 10 : Nat) : Int) from rfl, if_neg (by omega)]
      have e1 : wrap64 (48 + ((u % 10 : Nat) : Int)) % 256 = ((48 + u % 10 : Nat) : Int) := by rw [IntWalk.wrap64_in _ (by omega)]; omega
      rw [e1]
      exact hm (fun l => spec_l01Dec.l0 k n l _)
    · rw [Int.neg_tmod, show Int.tmod (u : Int) 10 = ((u % 10 : Nat) : Int) from rfl]
      by_cases h0 : u % 10 = 0
      · rw [if_neg (by omega)]
        have e1 : wrap64 (48 + -((u % 10 : Nat) : Int)) % 256 = ((48 + u % 10 : Nat) : Int) := by rw [IntWalk.wrap64_in _ (by omega)]; omega
        rw [e1]
        exact hm (fun l => spec_l01Dec.l0 k n l _)
      · rw [if_pos (by omega)]
        have e1 : wrap64 (48 + wrap64 (-(-((u % 10 : Nat) : Int)))) % 256 = ((48 + u % 10 : Nat) : Int) := by rw [IntWalk.wrap64_in (- -_) (by omega), IntWalk.wrap64_in _ (by omega)]; omega
        rw [e1]
        exact hm (fun l => spec_l01Dec.l0 k n l _)
theorem ev_Dec (n : Int) (h1 : -9223372036854775808 ≤ n) (h2 : n ≤ 9223372036854775807) : Ev (fun k => spec_l01Dec.f k n) (ofL (itoa n)) := by
  have e : ofL (itoa n) = decFin n (dgL n.natAbs ++ []) := by
    rw [List.append_nil]
    unfold decFin itoa
    by_cases h : n < 0
    · rw [if_pos h, if_pos h, strOf_neg]
    · rw [if_neg h, if_neg h, strOf_dgL, show n.toNat = n.natAbs by omega]
  rw [e]
  have hl : (decDigits n.natAbs).length ≤ 20 := dec_len n.natAbs 19 (by have : (10 : Nat) ^ (19 + 1) = 100000000000000000000 := by decide
                                                                        omega)
  refine Ev.step (fun k => ?_) (dec_run n n.natAbs n [] (by omega) (by omega) (by simp; omega))
  show spec_l01Dec.l0 (k + 1) n [] n = _
  simp only [spec_l01Dec.l0]
  rw [if_pos (by simp)]

theorem ev_In (x : Int) : spec_l00In.f x (-1000000000000000) 1000000000000000 = some (decide (-1000000000000000 ≤ x ∧ x ≤ 1000000000000000)) := by
  unfold spec_l00In.f
  by_cases h : x ≥ -1000000000000000
  · rw [if_pos h]; congr 1; simp [show -1000000000000000 ≤ x from h]
  · rw [if_neg h]; congr 1; simp [show ¬ (-1000000000000000 ≤ x) from h]

def okV (n : Int) : Prop := -1000000000000000 ≤ n ∧ n ≤ 1000000000000000
instance (n : Int) : Decidable (okV n) := inferInstanceAs (Decidable (_ ∧ _))
def okL (l : List Int) : Bool := l.all fun n => decide (okV n)
theorem ev_list_loop (l : List Int) (hl : l.length ≤ 1048576) : ∀ (d i : Nat), i + d = l.length → Ev (fun k => spec_l01List.l0 k l (i : Int)) (okL (l.drop i) && decide (l.length ≤ 64)) := by
  intro d
  induction d with
  | zero =>
    intro i hi
    rw [List.drop_of_length_le (by omega)]
    refine Ev.step (f := fun _ => some (decide (l.length ≤ 64))) (fun k => ?_) ?_
    · simp only [spec_l01List.l0]
      rw [if_neg (by omega)]
      congr 1
      by_cases h : l.length ≤ 64
      · rw [decide_eq_true h, decide_eq_true (by omega)]
      · rw [decide_eq_false h, decide_eq_false (by omega)]
    · simp only [okL, List.all_nil, Bool.true_and]
      exact Ev.now _
  | succ d ih =>
    intro i hi
    have hlt : i < l.length := by omega
    have hw : wrap64 ((i : Int) + 1) = ((i + 1 : Nat) : Int) := by rw [IntWalk.wrap64_in _ (by omega)]; omega
    have hr : rd l (i : Int) = l[i] := by unfold rd; simp [hlt]
    rw [List.drop_eq_getElem_cons hlt]
    by_cases hv : okV l[i]
    · refine Ev.step (fun k => ?_) (show Ev (fun k => spec_l01List.l0 k l ((i + 1 : Nat) : Int)) _ from by
        rw [show okL (l[i] :: l.drop (i + 1)) = okL (l.drop (i + 1)) by unfold okL; rw [List.all_cons, decide_eq_true hv, Bool.true_and]]
        exact ih (i + 1) (by omega))
      simp only [spec_l01List.l0]
      rw [if_pos (by omega), if_pos (by omega), hr, ev_In, hw]
      rw [show decide (-1000000000000000 ≤ l[i] ∧ l[i] ≤ 1000000000000000) = true from decide_eq_true hv]
      simp
    · refine Ev.step (f := fun _ => some false) (fun k => ?_) ?_
      · simp only [spec_l01List.l0]
        rw [if_pos (by omega), if_pos (by omega), hr, ev_In]
        rw [show decide (-1000000000000000 ≤ l[i] ∧ l[i] ≤ 1000000000000000) = false from decide_eq_false hv]
        simp
      · rw [show okL (l[i] :: l.drop (i + 1)) = false by unfold okL; rw [List.all_cons, decide_eq_false hv, Bool.false_and]]
        exact Ev.now _

/-- the numerals with commas between -/
def textL (l : List Int) : List UInt8 := if l = [] then [110, 111, 110, 101] else Lib.join (l.map itoa) [44]
theorem join_cons2 (a b : List UInt8) (r : List (List UInt8)) : Lib.join (a :: b :: r) [44] = a ++ 44 :: Lib.join (b :: r) [44] := by
  unfold Lib.join
  rw [List.intercalate_cons_cons]
  simp
theorem join_snoc : ∀ (r : List (List UInt8)) (a b : List UInt8), Lib.join (a :: r ++ [b]) [44] = Lib.join (a :: r) [44] ++ 44 :: b
  | [], a, b => by
    have := join_cons2 a b []
    simp [Lib.join] at this ⊢
  | c :: r, a, b => by
    have e1 := join_cons2 a c r
    have e2 := join_cons2 a c (r ++ [b])
    have ih := join_snoc r c b
    rw [show a :: c :: r ++ [b] = a :: c :: (r ++ [b]) from rfl, e2, e1, show c :: (r ++ [b]) = c :: r ++ [b] from rfl, ih]
    simp
theorem join_len : ∀ (ls : List (List UInt8)), (∀ x ∈ ls, x.length ≤ 20) → (Lib.join ls [44]).length ≤ 21 * ls.length
  | [], _ => by simp [Lib.join]
  | [a], h => by have := h a (by simp); simp [Lib.join]; omega
  | a :: b :: r, h => by
    have h1 := h a (by simp)
    have ih := join_len (b :: r) (fun x hx => h x (List.mem_cons_of_mem _ hx))
    rw [join_cons2]
    simp at ih ⊢
    omega
theorem itoa_len20 {n : Int} (h1 : -9223372036854775808 ≤ n) (h2 : n ≤ 9223372036854775807) : (itoa n).length ≤ 20 := by
  unfold itoa
  split
  · have := dec_len n.natAbs 18 (by have : (10 : Nat) ^ (18 + 1) = 10000000000000000000 := by decide
                                    omega)
    simp; omega
  · have := dec_len n.toNat 18 (by have : (10 : Nat) ^ (18 + 1) = 10000000000000000000 := by decide
                                   omega)
    omega
theorem okL_at {l : List Int} (h : okL l = true) {i : Nat} (hi : i < l.length) : okV l[i] := by
  unfold okL at h
  have := List.all_eq_true.1 h l[i] (List.getElem_mem hi)
  exact of_decide_eq_true this
theorem ofL_app (a b : List UInt8) : ofL a ++ ofL b = ofL (a ++ b) := by
  apply ByteArray.ext
  apply Array.ext'
  simp [ofL]
theorem ofL_size (l : List UInt8) : (ofL l).size = l.length := by rw [← data_length]; rfl
theorem ev_text_loop (l : List Int) (hl : l.length ≤ 64) (hok : okL l = true) : ∀ (d i : Nat), i + d = l.length → 1 ≤ i → Ev (fun k => spec_l01Text.l0 k l (ofL (Lib.join ((l.take i).map itoa) [44])) (i : Int)) (ofL (Lib.join (l.map itoa) [44])) := by
  intro d
  induction d with
  | zero =>
    intro i hi h1
    rw [List.take_of_length_le (by omega)]
    refine Ev.step (f := fun _ => some (ofL (Lib.join (l.map itoa) [44]))) (fun k => ?_) (Ev.now _)
    simp only [spec_l01Text.l0]
    rw [if_neg (by omega)]
  | succ d ih =>
    intro i hi h1
    have hlt : i < l.length := by omega
    have hw : wrap64 ((i : Int) + 1) = ((i + 1 : Nat) : Int) := by rw [IntWalk.wrap64_in _ (by omega)]; omega
    have hr : rd l (i : Int) = l[i] := by unfold rd; simp [hlt]
    have hv := okL_at hok hlt
    have hN := ih (i + 1) (by omega) (by omega)
    have hT : Lib.join ((l.take (i + 1)).map itoa) [44] = Lib.join ((l.take i).map itoa) [44] ++ 44 :: itoa l[i] := by
      rw [List.take_add_one, List.getElem?_eq_getElem hlt, List.map_append]
      cases hq : l.take i with
      | nil => have := congrArg List.length hq; rw [List.length_take, List.length_nil] at this; omega
      | cons a r => exact join_snoc (r.map itoa) (itoa a) (itoa l[i])
    have hL : (Lib.join ((l.take i).map itoa) [44]).length ≤ 21 * 64 := by
      have := join_len ((l.take i).map itoa) (fun x hx => by
        obtain ⟨n, hn, rfl⟩ := List.mem_map.1 hx
        obtain ⟨j, hj, rfl⟩ := List.getElem_of_mem (List.mem_of_mem_take hn)
        have := okL_at hok hj
        exact itoa_len20 (by unfold okV at this; omega) (by unfold okV at this; omega))
      have h2 : ((l.take i).map itoa).length ≤ 64 := by rw [List.length_map, List.length_take]; omega
      omega
    have hL2 := itoa_len20 (n := l[i]) (by unfold okV at hv; omega) (by unfold okV at hv; omega)
    rw [hT] at hN
    refine Ev.step (f := fun k => (spec_l01Dec.f k l[i]).bind fun t => if 1 + t.size ≤ 9223372036854775807 then (if (ofL (Lib.join ((l.take i).map itoa) [44])).size + ((⟨#[44]⟩ : ByteArray) ++ t).size ≤ 9223372036854775807 then spec_l01Text.l0 k l (ofL (Lib.join ((l.take i).map itoa) [44]) ++ ((⟨#[44]⟩ : ByteArray) ++ t)) ((i + 1 : Nat) : Int) else none) else none) (fun k => ?_) ?_
    · simp only [spec_l01Text.l0]
      rw [if_pos (by omega), if_pos (by omega), hr, hw]
    · refine Ev.bind (ev_Dec l[i] (by unfold okV at hv; omega) (by unfold okV at hv; omega)) ?_
      have e : (⟨#[44]⟩ : ByteArray) ++ ofL (itoa l[i]) = ofL (44 :: itoa l[i]) := ofL_app [44] _
      simp only [e, ofL_app, ofL_size]
      rw [show (fun k => if 1 + (itoa l[i]).length ≤ 9223372036854775807 then (if (Lib.join ((l.take i).map itoa) [44]).length + (44 :: itoa l[i]).length ≤ 9223372036854775807 then spec_l01Text.l0 k l (ofL (Lib.join ((l.take i).map itoa) [44] ++ 44 :: itoa l[i])) ((i + 1 : Nat) : Int) else none) else none) = fun k => spec_l01Text.l0 k l (ofL (Lib.join ((l.take i).map itoa) [44] ++ 44 :: itoa l[i])) ((i + 1 : Nat) : Int) from funext fun k => by rw [if_pos (by omega), if_pos (by simp only [List.length_cons]; omega)]]
      exact hN
def textD (l : List Int) : ByteArray × Bool := if (okL l && decide (l.length ≤ 64)) = true then (ofL (textL l), true) else (ofL [], false)
theorem ev_ListText (l : List Int) (hl : l.length ≤ 1048576) : Ev (fun k => spec_ListText.f k l) (textD l) := by
  refine Ev.congr (f := fun k => (spec_l01List.f k l).bind fun t => if t = true then ((spec_l01Text.f k l).bind fun u => some (u, true)) else some ((⟨#[]⟩ : ByteArray), false)) (fun k => rfl) ?_
  have h1 : Ev (fun k => spec_l01List.f k l) (okL l && decide (l.length ≤ 64)) := ev_list_loop l hl l.length 0 (by omega)
  refine Ev.bind h1 ?_
  unfold textD
  by_cases hb : (okL l && decide (l.length ≤ 64)) = true
  · simp only [if_pos hb]
    simp only [Bool.and_eq_true, decide_eq_true_eq] at hb
    refine Ev.bind (a := ofL (textL l)) ?_ (Ev.now _)
    unfold textL
    by_cases h0 : l = []
    · subst h0
      refine Ev.congr (f := fun _ => some (ofL [110, 111, 110, 101])) (fun k => ?_) (Ev.now _)
      unfold spec_l01Text.f
      rw [if_pos (by rfl)]
      rfl
    · have hp := List.length_pos_iff.2 h0
      rw [if_neg h0]
      have hr : rd l 0 = l[0] := by unfold rd; simp [hp]
      have hv := okL_at hb.1 hp
      refine Ev.congr (f := fun k => (spec_l01Dec.f k l[0]).bind fun t => spec_l01Text.l0 k l t 1) (fun k => ?_) ?_
      · unfold spec_l01Text.f
        rw [if_neg (by omega), if_pos (by omega), hr]
      · refine Ev.bind (ev_Dec l[0] (by unfold okV at hv; omega) (by unfold okV at hv; omega)) ?_
        have hN := ev_text_loop l hb.2 hb.1 (l.length - 1) 1 (by omega) (by omega)
        have e : Lib.join ((l.take 1).map itoa) [44] = itoa l[0] := by
          cases l with
          | nil => exact absurd rfl h0
          | cons a r => simp [Lib.join]
        rw [e] at hN
        exact hN
  · simp only [if_neg hb]
    exact Ev.now _
end Go.Proofs.YtecimbcioajonaaDoor.LT
