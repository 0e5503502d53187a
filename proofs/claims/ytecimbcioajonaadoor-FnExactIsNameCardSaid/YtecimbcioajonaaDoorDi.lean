/- Names: the reference's answer and the program's; the statement walked. -/
import Derived.Test.YtecimbcioajonaaDoorDp
import Derived.Test.YtecimbcioajonaaDoorPIsNamex1
import Derived.Shelf.Strings.SlTrimAscii
namespace Go.Proofs.YtecimbcioajonaaDoor
set_option maxRecDepth 100000
set_option linter.unusedVariables false
open Go.Lib Go.RowKit Go.Proofs.YtecimbcioajonaaDoorW.PrintWords Go.Proofs.YtecimbcioajonaaDoor.PIsName
def isLet (b : UInt8) : Bool := decide (97 ≤ b.toNat ∧ b.toNat ≤ 122)
def letL (l : List UInt8) : Bool := l.all isLet
def nameB (s : ByteArray) : Bool := letL s.data.toList && (decide (1 ≤ s.size) && decide (s.size ≤ 8))
def abc : List UInt8 := [97, 98, 99, 100, 101, 102, 103, 104, 105, 106, 107, 108, 109, 110, 111, 112, 113, 114, 115, 116, 117, 118, 119, 120, 121, 122]
theorem abc_is (b : UInt8) : abc.contains b = isLet b := by
  have h : ∀ n, n < 256 → abc.contains (UInt8.ofNat n) = decide (97 ≤ n ∧ n ≤ 122) := by decide +kernel
  have := h b.toNat b.toNat_lt
  rw [UInt8.ofNat_toNat] at this
  exact this
theorem all_of_drop {α : Type} (p : α → Bool) : ∀ m : List α, (∀ x ∈ m.dropWhile p, p x = true) → ∀ x ∈ m, p x = true
  | [], _, x, hx => by cases hx
  | a :: t, h, x, hx => by
    by_cases ha : p a = true
    · rw [List.dropWhile_cons_of_pos ha] at h
      rcases List.mem_cons.1 hx with rfl | hx
      · exact ha
      · exact all_of_drop p t h x hx
    · rw [List.dropWhile_cons_of_neg ha] at h
      exact absurd (h a (List.mem_cons_self ..)) ha
theorem drop_nil {α : Type} (p : α → Bool) : ∀ m : List α, m.dropWhile p = [] ↔ ∀ x ∈ m, p x = true
  | [] => by simp
  | a :: t => by
    by_cases ha : p a = true
    · rw [List.dropWhile_cons_of_pos ha, drop_nil p t]
      simp [ha]
    · rw [List.dropWhile_cons_of_neg ha]
      exact ⟨fun h => (by cases h), fun h => absurd (h a (List.mem_cons_self ..)) ha⟩
theorem trim_nil (l : List UInt8) : trimS l abc = [] ↔ letL l = true := by
  have e : (fun b => abc.contains b) = isLet := funext abc_is
  unfold trimS trimLeftS trimRightS letL
  rw [show (abc.contains ·) = isLet from e, drop_nil, List.all_eq_true]
  constructor
  · intro h x hx
    exact all_of_drop isLet l.reverse (fun y hy => h y (by simpa using hy)) x (by simpa using hx)
  · intro h x hx
    have : x ∈ l.reverse := (List.dropWhile_suffix isLet).subset (by simpa using hx)
    exact h x (by simpa using this)

theorem ev_name_loop (s : ByteArray) (hs : s.size ≤ 1048576) : ∀ (d i : Nat), i + d = s.size → Ev (fun k => spec_IsName.l0 k s (i : Int)) (letL (s.data.toList.drop i) && (decide (1 ≤ s.size) && decide (s.size ≤ 8))) := by
  intro d
  induction d with
  | zero =>
    intro i hi
    have hl := size_len s
    rw [List.drop_of_length_le (by omega)]
    refine Ev.step (f := fun _ => some (decide (1 ≤ s.size) && decide (s.size ≤ 8))) (fun k => ?_) ?_
    · simp only [spec_IsName.l0]
      rw [if_neg (by omega)]
      by_cases h : 1 ≤ s.size
      · rw [if_pos (by omega), decide_eq_true h, Bool.true_and]
        congr 1
        by_cases h2 : s.size ≤ 8
        · rw [decide_eq_true h2, decide_eq_true (by omega)]
        · rw [decide_eq_false h2, decide_eq_false (by omega)]
      · rw [if_neg (by omega), decide_eq_false h, Bool.false_and]
    · simp only [letL, List.all_nil, Bool.true_and]
      exact Ev.now _
  | succ d ih =>
    intro i hi
    have hl := size_len s
    have hlt : i < s.data.toList.length := by omega
    have hw : wrap64 ((i : Int) + 1) = ((i + 1 : Nat) : Int) := by rw [IntWalk.wrap64_in _ (by omega)]; omega
    have hr := bt_get s i hlt
    rw [List.drop_eq_getElem_cons hlt]
    generalize s.data.toList[i] = b at hr
    by_cases hv : isLet b = true
    · refine Ev.step (fun k => ?_) (show Ev (fun k => spec_IsName.l0 k s ((i + 1 : Nat) : Int)) _ from by
        rw [show letL (b :: s.data.toList.drop (i + 1)) = letL (s.data.toList.drop (i + 1)) by unfold letL; rw [List.all_cons, hv, Bool.true_and]]
        exact ih (i + 1) (by omega))
      have hv' : 97 ≤ b.toNat ∧ b.toNat ≤ 122 := of_decide_eq_true hv
      simp only [spec_IsName.l0]
      rw [if_pos (by omega), if_pos (by omega), hr, if_neg (by omega), if_neg (by omega), hw]
    · have hv' : ¬ (97 ≤ b.toNat ∧ b.toNat ≤ 122) := of_decide_eq_false (Bool.eq_false_iff.2 hv)
      refine Ev.step (f := fun _ => some false) (fun k => ?_) ?_
      · simp only [spec_IsName.l0]
        rw [if_pos (by omega), if_pos (by omega), hr]
        by_cases h1 : b.toNat < 97
        · rw [if_pos (by omega)]
        · rw [if_neg (by omega), if_pos (by omega)]
      · rw [show letL (b :: s.data.toList.drop (i + 1)) = false by unfold letL; rw [List.all_cons, Bool.eq_false_iff.2 hv, Bool.false_and], Bool.false_and]
        exact Ev.now _
theorem spec_IsName' (s : ByteArray) (hs : s.size ≤ 1048576) (w : World) : Calls Tryd.prog 12 #[.string s] w (RetB (.bool (nameB s)) w) := by
  have h : Ev (fun k => spec_IsName.f k s) (nameB s) := ev_name_loop s hs s.size 0 (by omega)
  obtain ⟨k, hk⟩ := h.rounds
  exact (spec_IsName.calls k s _ w hk).mono fun e w' ⟨h1, h2⟩ => ⟨h1, h2.below⟩

set_option maxHeartbeats 1000000 in
theorem impl_IsName (s : ByteArray) (hs : s.size ≤ 1048576) (w : World) : Calls Tryd.prog 13 #[.string s] w (RetB (.bool (nameB s)) w) := by
  by_cases h1 : 1 ≤ s.size
  · by_cases h2 : s.size ≤ 8
    · have hn : nameB s = letL s.data.toList := by unfold nameB; rw [decide_eq_true h1, decide_eq_true h2]; simp
      have i1 : (s.size : Int) ≥ 1 := by omega
      have i2 : (s.size : Int) ≤ 8 := by omega
      have b1 : decide (1 ≤ (s.size : Int)) = true := decide_eq_true (by omega)
      have b2 : decide ((s.size : Int) ≤ 8) = true := decide_eq_true (by omega)
      have C := Any.strings_Trim_laid Tryd.lays160 (by kernel_rfl) s ⟨abc.toArray⟩ w (by omega) (by decide) (ascii_of_all (by decide))
      have CC := Lib.hid C
      have HN := Lib.hid hn
      by_cases h3 : letL s.data.toList = true
      · have ht : trimS s.data.toList abc = [] := (trim_nil _).2 h3
        have R := Lib.hid (h3)
        have HT := Lib.hid (show (trimS s.data.toList (⟨abc.toArray⟩ : ByteArray).data.toList) = [] from ht)
        clear C hn h3 ht h1 h2
        go_enter Tryd.func13, Tryd.ntmps13
        go_wp2_with (go_at_call 27; refine CC.out.mono ?_; rw [HT.out]; rintro _ w1 ⟨rfl, hB⟩; have B1 := Lib.hid hB; clear hB)
        go_ret
        exact ⟨by rw [HN.out, R.out]; rfl, B1.out⟩
      · have ht : ¬ trimS s.data.toList abc = [] := fun q => h3 ((trim_nil _).1 q)
        have R := Lib.hid (Bool.eq_false_iff.2 h3)
        have HT := Lib.hid (show ¬ (trimS s.data.toList (⟨abc.toArray⟩ : ByteArray).data.toList) = [] from ht)
        clear C hn h3 ht h1 h2
        generalize hq : trimS s.data.toList (⟨abc.toArray⟩ : ByteArray).data.toList = q at CC HT
        obtain ⟨e1, e2⟩ := str_eq_false (a := ⟨q.toArray⟩) (b := ⟨#[]⟩) (by simpa using HT.out)
        clear hq
        go_enter Tryd.func13, Tryd.ntmps13
        go_wp2_with (go_at_call 27; refine CC.out.mono ?_; rintro _ w1 ⟨rfl, hB⟩; have B1 := Lib.hid hB; clear hB)
        go_ret
        exact ⟨by rw [HN.out, R.out]; first | rfl | simp_all, B1.out⟩
    · have hn : nameB s = false := by unfold nameB; rw [decide_eq_false h2]; simp
      have i1 : (s.size : Int) ≥ 1 := by omega
      have i2 : ¬ (s.size : Int) ≤ 8 := by omega
      have b1 : decide (1 ≤ (s.size : Int)) = true := decide_eq_true (by omega)
      have b2 : decide ((s.size : Int) ≤ 8) = false := decide_eq_false (by omega)
      go_enter Tryd.func13, Tryd.ntmps13
      go_wp2
      go_ret
      exact ⟨by first | rfl | (rw [hn]; rfl), Below.refl _ _⟩
  · have hn : nameB s = false := by unfold nameB; rw [decide_eq_false h1]; simp
    have i1 : ¬ (s.size : Int) ≥ 1 := by omega
    have b1 : decide (1 ≤ (s.size : Int)) = false := decide_eq_false (by omega)
    go_enter Tryd.func13, Tryd.ntmps13
    go_wp2
    go_ret
    exact ⟨by first | rfl | (rw [hn]; rfl), Below.refl _ _⟩
theorem law_IsName (s : ByteArray) (w : World) : Calls Tryd.prog 5 #[.string s] w (LawTrue w) := by
  by_cases hs : s.size ≤ 1048576
  · have hs2 : ¬ (1048576 < (s.size : Int)) := by omega
    generalize hv : nameB s = o
    have V := Lib.hid hv
    clear hv
    go_enter Tryd.func5, Tryd.ntmps5
    go_wp2_with (first
      | (go_at_call 12; refine (spec_IsName' s hs _).mono ?_; rw [V.out]; rintro _ w1 ⟨rfl, hB⟩; have B1 := Lib.hid hB; clear hB)
      | (go_at_call 13; refine (impl_IsName s hs _).mono ?_; rw [V.out]; rintro _ w2 ⟨rfl, hB⟩; have B2 := Lib.hid (B1.out.trans (hB.mono B1.out.size)); clear hB))
    all_goals go_ret
    all_goals first | exact ⟨rfl, B2.out⟩ | (exfalso; simp_all)
  · have hs2 : 1048576 < (s.size : Int) := by omega
    go_enter Tryd.func5, Tryd.ntmps5
    go_wp2
    go_ret
    exact ⟨rfl, Below.refl _ _⟩
end Go.Proofs.YtecimbcioajonaaDoor
