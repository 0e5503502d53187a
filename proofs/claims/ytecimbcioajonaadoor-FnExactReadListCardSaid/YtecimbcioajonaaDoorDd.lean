/- The program's functions on decimals and lists, by the library's contracts. -/
import Derived.Test.YtecimbcioajonaaDoorDc
import Derived.Test.YtecimbcioajonaaDoorSh
import Derived.Lib.SplitLaws
import Derived.Lib.SmallJoins
import Derived.Lib.Hide
import Derived.Maps.AppendAt
import Derived.WalkKit
import Derived.OwnWalk
namespace Go.Proofs.YtecimbcioajonaaDoor
set_option maxRecDepth 100000
set_option linter.unusedVariables false
open Go.Lib Go.RowKit Go.Sort

/-! the library's cut is the plain one -/
theorem cutF_miss : ∀ (l pre : List UInt8), indexByte l 44 = -1 → cutF 44 pre l = [pre ++ l]
  | [], pre, _ => by simp [cutF]
  | b :: l, pre, h => by
    unfold indexByte at h
    by_cases hb : (b == 44) = true
    · rw [if_pos hb] at h; omega
    · rw [if_neg hb] at h
      have hne : ¬ b = 44 := fun e => hb (by rw [e]; rfl)
      have hl : indexByte l 44 = -1 := by
        by_cases q : (indexByte l 44 == -1) = true
        · exact beq_iff_eq.1 q
        · rw [if_neg q] at h
          have := indexByte_ge l 44
          omega
      rw [cutF, if_neg hne, cutF_miss l _ hl]
      simp
theorem cutF_hit : ∀ (l pre : List UInt8) (i : Nat), indexByte l 44 = (i : Int) → cutF 44 pre l = (pre ++ l.take i) :: cutF 44 [] (l.drop (i + 1)) ∧ i < l.length
  | [], pre, i, h => by simp only [indexByte] at h; omega
  | b :: l, pre, i, h => by
    unfold indexByte at h
    by_cases hb : (b == 44) = true
    · rw [if_pos hb] at h
      have e : b = 44 := beq_iff_eq.1 hb
      obtain rfl : i = 0 := by omega
      rw [cutF, if_pos e]
      exact ⟨by simp, by simp⟩
    · rw [if_neg hb] at h
      have hne : ¬ b = 44 := fun e => hb (by rw [e]; rfl)
      by_cases q : (indexByte l 44 == -1) = true
      · rw [if_pos q] at h; omega
      · rw [if_neg q] at h
        have hge := indexByte_ge l 44
        obtain ⟨j, rfl⟩ : ∃ j, i = j + 1 := ⟨i - 1, by have : indexByte l 44 ≠ -1 := fun e => q (by rw [e]; rfl)
                                                       omega⟩
        obtain ⟨h1, h2⟩ := cutF_hit l (pre ++ [b]) j (by omega)
        rw [cutF, if_neg hne, h1]
        exact ⟨by simp, by simp; omega⟩
theorem split_cut (n : Nat) : ∀ (l : List UInt8), l.length ≤ n → splitK [44] 0 (count l [44]) l = cutF 44 [] l := by
  induction n with
  | zero =>
    intro l hl
    have : l = [] := List.eq_nil_of_length_eq_zero (by omega)
    subst this
    rfl
  | succ n ih =>
    intro l hl
    by_cases h : index l [44] = -1
    · rw [count_miss h, cutF_miss l [] (by rw [← index_one]; exact h)]
      rfl
    · have hge := index_ge l [44]
      obtain ⟨i, hi⟩ : ∃ i : Nat, index l [44] = (i : Int) := ⟨(index l [44]).toNat, by omega⟩
      obtain ⟨h1, h2⟩ := cutF_hit l [] i (by rw [← index_one]; exact hi)
      rw [count_hit (by simp) hi, h1, show 1 + count (l.drop (i + ([44] : List UInt8).length)) [44] = count (l.drop (i + 1)) [44] + 1 from Nat.add_comm _ _, splitK, if_neg (by rw [hi]; simp), hi]
      have := ih (l.drop (i + 1)) (by rw [List.length_drop]; omega)
      simp only [Int.toNat_natCast, Nat.add_zero, List.nil_append, List.length_singleton, this]
theorem split_is (s : ByteArray) : splitB ⟨#[44]⟩ 0 (countB s ⟨#[44]⟩) s = cutB s := by
  have h := splitB_data ⟨#[44]⟩ 0 (countB s ⟨#[44]⟩) s
  have h2 := split_cut s.data.toList.length s.data.toList (Nat.le_refl _)
  have h3 : (splitB ⟨#[44]⟩ 0 (countB s ⟨#[44]⟩) s).map (fun x => ofL x.data.toList) = cutB s := by
    rw [show (fun x : ByteArray => ofL x.data.toList) = ofL ∘ (fun x : ByteArray => x.data.toList) from rfl, ← List.map_map, h]
    exact congrArg (List.map ofL) h2
  rw [← h3]
  conv => lhs; rw [← List.map_id (splitB ⟨#[44]⟩ 0 (countB s ⟨#[44]⟩) s)]
  rfl
theorem split_len (s : ByteArray) : countB s ⟨#[44]⟩ + 1 = (cutB s).length := by
  rw [← split_is, splitB_all ⟨#[44]⟩ (by decide) 0 _ s rfl]

/-- the table of powers lies there -/
def Tb (w : World) : Prop := Lib.TabIs Tryd.prog w "internal/strconv.uint64pow10" .u64 Lib.pow10Tab
theorem gPow : Tryd.prog.globalNamed "internal/strconv.uint64pow10" = some 0 := by kernel_rfl
theorem Tb.below {w w' : World} (h : Tb w) (hb : Below w.heap.size w w') : Tb w' := by
  exact Joins.tab_stays gPow h hb (Nat.le_refl _)

theorem below_grow' (w : World) (q : Nat) (os : Array Obj) : Below w.heap.size w (grow (w.drewN q) os) :=
  ⟨rfl, rfl, rfl, by show w.heap.size ≤ (w.heap ++ os).size; simp, fun i hi => by
    show (w.heap ++ os)[i]? = _
    rw [Array.getElem?_append_left hi]⟩
set_option maxHeartbeats 1000000 in
theorem impl_Decimal (n : Int) (h0 : -9223372036854775808 ≤ n) (h1 : n ≤ 9223372036854775807) (w : World) (ht : Tb w) :
    Calls Tryd.prog 9 #[.int .i64 n] w (fun e w' => e = .returned (.string (ofL (itoa n))) ∧ Below w.heap.size w w') := by
  have HT := Lib.hid ht
  clear ht
  go_enter Tryd.func9, Tryd.ntmps9
  go_wp2_with (go_at_call 23; refine (Tryd.strconv_FormatInt_10 n h0 h1 _ HT.out).mono ?_; rintro _ _ ⟨rfl, k, os, rfl⟩)
  go_ret
  exact ⟨rfl, below_grow' _ _ _⟩

/-- what the two error variables hold, and a number of the library's -/
def Ev2 (w : World) : Prop := ((∃ tp p, w.var? Tryd.prog "strconv.ErrSyntax" = some #[.iface tp p]) ∧ ∃ tp p, w.var? Tryd.prog "strconv.ErrRange" = some #[.iface tp p]) ∧ ∃ m, w.cell? ⟨7, 0, none⟩ = some (.int .i64 m)
theorem gSyn : Tryd.prog.globalNamed "strconv.ErrSyntax" = some 1 := by kernel_rfl
theorem gRan : Tryd.prog.globalNamed "strconv.ErrRange" = some 2 := by kernel_rfl
theorem var_below {w w' : World} {n : String} {g : Nat} {v : Value} (hg : Tryd.prog.globalNamed n = some g) (h : w.var? Tryd.prog n = some #[v]) (hb : Below w.heap.size w w') : w'.var? Tryd.prog n = some #[v] := Joins.var_stays hg h hb (Nat.le_refl _)
theorem Ev2.below {w w' : World} (h : Ev2 w) (hb : Below w.heap.size w w') : Ev2 w' := by
  obtain ⟨⟨⟨t1, p1, h1⟩, t2, p2, h2⟩, m, h3⟩ := h
  exact ⟨⟨⟨t1, p1, var_below gSyn h1 hb⟩, t2, p2, var_below gRan h2 hb⟩, m, (hb.cell (p := ⟨_, 0, none⟩) (World.block_lt_of_cell? w _ h3)).trans h3⟩
def Wd (w : World) : Prop := Tb w ∧ Ev2 w
theorem Wd.below {w w' : World} (h : Wd w) (hb : Below w.heap.size w w') : Wd w' := ⟨h.1.below hb, h.2.below hb⟩
def RetB (v : Value) (w : World) (e : Ending) (w' : World) : Prop := e = .returned v ∧ Below w.heap.size w w'

set_option maxHeartbeats 400000 in
theorem impl_isValue (x : Int) (w : World) : Calls Tryd.prog 26 #[.int .i64 x] w (RetB (.bool (decide (-1000000000000000 ≤ x ∧ x ≤ 1000000000000000))) w) := by
  go_enter Tryd.func26, Tryd.ntmps26
  go_wp2
  all_goals go_ret
  all_goals exact ⟨by congr 2; simp_all <;> omega, Below.refl _ _⟩

theorem str_eq_true {a b : ByteArray} (h : a.data.toList = b.data.toList) : (a.toList == b.toList) = true ∧ (a.toList != b.toList) = false := by
  have e : a.toList = b.toList := by rw [ByteArray.toList_eq, ByteArray.toList_eq]; exact h
  exact ⟨beq_iff_eq.2 e, bne_eq_false_iff_eq.2 e⟩
theorem str_eq_false {a b : ByteArray} (h : ¬ a.data.toList = b.data.toList) : (a.toList == b.toList) = false ∧ (a.toList != b.toList) = true := by
  have e : ¬ a.toList = b.toList := by rw [ByteArray.toList_eq, ByteArray.toList_eq]; exact h
  exact ⟨beq_eq_false_iff_ne.2 e, bne_iff_ne.2 e⟩

set_option maxHeartbeats 2000000 in
theorem impl_ReadDecimal (s : ByteArray) (hs : s.size ≤ 1048576) (w : World) (hw : Wd w) :
    Calls Tryd.prog 11 #[.string s] w (RetB (.tuple #[.int .i64 ((valD s).getD 0), .bool (valD s).isSome]) w) := by
  have HW := Lib.hid hw
  clear hw
  have noV : ∀ q : NumEnd Int, parseIntB 64 s.data.toList = q → (∀ v, q ≠ .ok v) → valD s = none := by
    intro q hq hn
    unfold valD
    rw [hq]
    rcases q with v | _ | _ <;> first | rfl | exact absurd rfl (hn v)
  rcases hp : parseIntB 64 s.data.toList with v | _ | _
  · skip
    have hv : valD s = if -1000000000000000 ≤ v ∧ v ≤ 1000000000000000 ∧ itoa v = s.data.toList then some v else none := by unfold valD; rw [hp]
    by_cases hin : -1000000000000000 ≤ v ∧ v ≤ 1000000000000000
    · by_cases he : itoa v = s.data.toList
      · rw [if_pos ⟨hin.1, hin.2, he⟩] at hv
        have E := str_eq_true (a := ofL (itoa v)) (b := s) he
        have V := Lib.hid hv
        have D := Lib.hid (show decide (-1000000000000000 ≤ v ∧ v ≤ 1000000000000000) = true from decide_eq_true hin)
        have P := Lib.hid hp
        obtain ⟨e1, e2⟩ := E
        have i1 : -9223372036854775808 ≤ v := by omega
        have i2 : v ≤ 9223372036854775807 := by omega
        clear hv noV hp he hin
        go_enter Tryd.func11, Tryd.ntmps11
        go_wp2_with fail
        refine (Tryd.strconv_ParseInt_10_at64_ok s (by omega) v P.out _).mono ?_
        rintro _ w1 ⟨rfl, hw1⟩
        have B1 := Lib.hid (show Below w.heap.size w w1 from by rcases hw1 with rfl | ⟨t, rfl⟩; exact Below.refl _ _; exact Joins.below_bytesWorld _ _ _ _ (Nat.le_refl _))
        clear hw1
        go_wp2_with (first
          | (go_at_call 26; refine (impl_isValue v _).mono ?_; rw [D.out]; rintro _ w2 ⟨rfl, hB⟩; have B2 := Lib.hid (B1.out.trans (hB.mono B1.out.size)); clear hB)
          | (go_at_call 9; refine (impl_Decimal v i1 i2 _ (HW.out.1.below B2.out)).mono ?_; rintro _ w3 ⟨rfl, hB⟩; have B3 := Lib.hid (B2.out.trans (hB.mono B2.out.size)); clear hB))
        go_ret2
        exact ⟨by rw [V.out]; rfl, B3.out⟩
      · rw [if_neg (fun q => he q.2.2)] at hv
        have E := str_eq_false (a := ofL (itoa v)) (b := s) he
        have V := Lib.hid hv
        have D := Lib.hid (show decide (-1000000000000000 ≤ v ∧ v ≤ 1000000000000000) = true from decide_eq_true hin)
        have P := Lib.hid hp
        obtain ⟨e1, e2⟩ := E
        have i1 : -9223372036854775808 ≤ v := by omega
        have i2 : v ≤ 9223372036854775807 := by omega
        clear hv noV hp he hin
        go_enter Tryd.func11, Tryd.ntmps11
        go_wp2_with fail
        refine (Tryd.strconv_ParseInt_10_at64_ok s (by omega) v P.out _).mono ?_
        rintro _ w1 ⟨rfl, hw1⟩
        have B1 := Lib.hid (show Below w.heap.size w w1 from by rcases hw1 with rfl | ⟨t, rfl⟩; exact Below.refl _ _; exact Joins.below_bytesWorld _ _ _ _ (Nat.le_refl _))
        clear hw1
        go_wp2_with (first
          | (go_at_call 26; refine (impl_isValue v _).mono ?_; rw [D.out]; rintro _ w2 ⟨rfl, hB⟩; have B2 := Lib.hid (B1.out.trans (hB.mono B1.out.size)); clear hB)
          | (go_at_call 9; refine (impl_Decimal v i1 i2 _ (HW.out.1.below B2.out)).mono ?_; rintro _ w3 ⟨rfl, hB⟩; have B3 := Lib.hid (B2.out.trans (hB.mono B2.out.size)); clear hB))
        go_ret2
        exact ⟨by rw [V.out]; rfl, B3.out⟩
    · rw [if_neg (fun q => hin ⟨q.1, q.2.1⟩)] at hv
      have V := Lib.hid hv
      have D := Lib.hid (show decide (-1000000000000000 ≤ v ∧ v ≤ 1000000000000000) = false from decide_eq_false hin)
      have P := Lib.hid hp
      clear hv noV hp hin
      go_enter Tryd.func11, Tryd.ntmps11
      go_wp2_with fail
      refine (Tryd.strconv_ParseInt_10_at64_ok s (by omega) v P.out _).mono ?_
      rintro _ w1 ⟨rfl, hw1⟩
      have B1 := Lib.hid (show Below w.heap.size w w1 from by rcases hw1 with rfl | ⟨t, rfl⟩; exact Below.refl _ _; exact Joins.below_bytesWorld _ _ _ _ (Nat.le_refl _))
      clear hw1
      go_wp2_with (go_at_call 26; refine (impl_isValue v _).mono ?_; rw [D.out]; rintro _ w2 ⟨rfl, hB⟩; have B2 := Lib.hid (B1.out.trans (hB.mono B1.out.size)); clear hB)
      go_ret2
      exact ⟨by rw [V.out]; rfl, B2.out⟩
  · skip
    have V := Lib.hid (noV _ hp (by intro v q; cases q))
    have P := Lib.hid hp
    clear noV hp
    obtain ⟨tp, p, hvar⟩ := HW.out.2.1.1
    have HV := Lib.hid hvar
    clear hvar
    go_enter Tryd.func11, Tryd.ntmps11
    go_wp2_with fail
    refine (Tryd.strconv_ParseInt_10_at64_syntax_var s (by omega) (fun v q => by rw [P.out] at q; cases q) (fun q => by rw [P.out] at q; cases q) tp p _ HV.out).mono ?_
    rintro _ w1 ⟨N, rfl, _, _, hB⟩
    have B1 := Lib.hid hB
    clear hB
    go_wp2
    go_ret2
    exact ⟨by rw [V.out]; rfl, B1.out⟩
  · skip
    have V := Lib.hid (noV _ hp (by intro v q; cases q))
    have P := Lib.hid hp
    clear noV hp
    obtain ⟨tp, p, hvar⟩ := HW.out.2.1.2
    have HV := Lib.hid hvar
    clear hvar
    go_enter Tryd.func11, Tryd.ntmps11
    go_wp2_with fail
    refine (Tryd.strconv_ParseInt_10_at64_range_var s (by omega) P.out tp p _ HV.out).mono ?_
    rintro _ w1 ⟨N, rfl, _, _, hB⟩
    have B1 := Lib.hid hB
    clear hB
    go_wp2
    go_ret2
    exact ⟨by rw [V.out]; rfl, B1.out⟩
end Go.Proofs.YtecimbcioajonaaDoor
