/- The reference's values, cuts and lists of decimals, plainly. -/
import Derived.Test.YtecimbcioajonaaDoorDb
namespace Go.Proofs.YtecimbcioajonaaDoor
set_option linter.unusedVariables false
open Go.Lib Go.RowKit Go.Proofs.YtecimbcioajonaaDoorW.PrintWords Go.Proofs.YtecimbcioajonaaDoorW.PrintLast Go.Proofs.YtecimbcioajonaaDoorW.PrintMore Go.Proofs.YtecimbcioajonaaDoor.PReadList

theorem size_len (s : ByteArray) : s.data.toList.length = s.size := data_length s
theorem take_next (l : List UInt8) (i : Nat) (h : i < l.length) : l.take (i + 1) = l.take i ++ [l[i]] := by
  rw [List.take_add_one, List.getElem?_eq_getElem h]; rfl
theorem ev_val_loop (s : ByteArray) (hs : 1 ≤ s.size ∧ s.size ≤ 17) : ∀ (d i : Nat), i + d = s.size → Ev (fun k => spec_l01Value.l0 k s ((dv 0 (s.data.toList.take i) : Nat) : Int) (i : Int)) ((valD s).getD 0, (valD s).isSome) := by
  have hb : ∀ i, i ≤ s.size → dv 0 (s.data.toList.take i) < 100000000000000000 := by
    intro i hi
    have h1 := dv_lt (s.data.toList.take i) 0
    have h2 : (s.data.toList.take i).length ≤ 17 := by rw [List.length_take]; omega
    have h3 : (10 : Nat) ^ (s.data.toList.take i).length ≤ 10 ^ 17 := Nat.pow_le_pow_right (by omega) h2
    have h4 : (10 : Nat) ^ 17 = 100000000000000000 := by decide
    omega
  intro d
  induction d with
  | zero =>
    intro i hi
    obtain rfl : i = s.size := by omega
    have hT : s.data.toList.take s.size = s.data.toList := by rw [← size_len]; exact List.take_length
    rw [hT]
    have hB := hb s.size (Nat.le_refl _)
    rw [hT] at hB
    obtain ⟨c, r, e⟩ : ∃ c r, s.data.toList = c :: r := by
      cases q : s.data.toList with
      | nil => have := size_len s; rw [q] at this; simp at this; omega
      | cons c r => exact ⟨c, r, rfl⟩
    have h0 : bt s 0 = (c.toNat : Int) := by
      have := bt_get s 0 (by rw [size_len]; omega)
      simp only [e, List.getElem_cons_zero] at this
      exact this
    by_cases h45 : c.toNat = 45
    · have hr : wrap64 (-((dv 0 s.data.toList : Nat) : Int)) = rdN s.data.toList := by
        rw [IntWalk.wrap64_in _ (by omega)]
        unfold rdN
        rw [e, if_pos (by simp [h45])]
      have hR : rdN s.data.toList = -((dv 0 s.data.toList : Nat) : Int) := by unfold rdN; rw [e, if_pos (by simp [h45])]
      refine Ev.step (fun k => ?_) (ev_j2 s (rdN s.data.toList) rfl hs (by rw [hR]; omega) (by rw [hR]; omega))
      simp only [spec_l01Value.l0]
      rw [if_neg (by omega), if_pos (by omega), h0, if_pos (by omega), hr]
    · have hR : rdN s.data.toList = ((dv 0 s.data.toList : Nat) : Int) := by unfold rdN; rw [e, if_neg (by simp; omega)]
      refine Ev.step (fun k => ?_) (ev_j2 s (rdN s.data.toList) rfl hs (by rw [hR]; omega) (by rw [hR]; omega))
      simp only [spec_l01Value.l0]
      rw [if_neg (by omega), if_pos (by omega), h0, if_neg (by omega), hR]
  | succ d ih =>
    intro i hi
    have hlt : i < s.data.toList.length := by rw [size_len]; omega
    have hB := hb i (by omega)
    have hw : wrap64 ((i : Int) + 1) = ((i + 1 : Nat) : Int) := by rw [IntWalk.wrap64_in _ (by omega)]; omega
    have hN := ih (i + 1) (by omega)
    rw [take_next _ _ hlt, dv_snoc] at hN
    have hbt := bt_get s i hlt
    have hc : (s.data.toList[i]).toNat < 256 := UInt8.toNat_lt _
    generalize (s.data.toList[i]).toNat = c at hN hbt hc
    generalize dv 0 (s.data.toList.take i) = a at hN hB
    refine Ev.step (fun k => ?_) hN
    simp only [spec_l01Value.l0]
    rw [if_pos (by omega), if_pos (by omega), hbt, hw]
    by_cases h1 : 48 ≤ c
    · rw [if_pos (by omega)]
      by_cases h2 : c ≤ 57
      · rw [if_pos (by omega), if_pos ⟨h1, h2⟩]
        have e1 : wrap64 (wrap64 (10 * (a : Int)) + ((c : Int) - 48) % 256) = ((10 * a + (c - 48) : Nat) : Int) := by
          rw [IntWalk.wrap64_in (10 * (a : Int)) (by omega), IntWalk.wrap64_in _ (by omega)]; omega
        rw [e1]
      · rw [if_neg (by omega), if_neg (by omega)]
    · rw [if_neg (by omega), if_neg (by omega)]
theorem ev_Value (s : ByteArray) : Ev (fun k => spec_l01Value.f k s) ((valD s).getD 0, (valD s).isSome) := by
  by_cases hs : 1 ≤ s.size ∧ s.size ≤ 17
  · refine Ev.congr (f := fun k => spec_l01Value.j0 k s false) (fun k => ?_) ?_
    · unfold spec_l01Value.f
      rw [if_neg (by omega), decide_eq_false (by omega)]
    · refine Ev.step (fun k => ?_) (ev_val_loop s hs s.size 0 (by omega))
      simp only [spec_l01Value.j0]
      rfl
  · have hv : valD s = none := by
      cases hv : valD s with
      | none => rfl
      | some n =>
        obtain ⟨_, e1, e2, _⟩ := valD_some hv
        exact absurd ⟨e1, e2⟩ hs
    rw [hv]
    refine Ev.congr (f := fun k => spec_l01Value.j0 k s true) (fun k => ?_) ?_
    · unfold spec_l01Value.f
      by_cases h : (s.size : Int) < 1
      · rw [if_pos h]
      · rw [if_neg h, decide_eq_true (by omega)]
    · refine Ev.step (f := fun _ => some (0, false)) (fun k => ?_) (Ev.now _)
      simp only [spec_l01Value.j0, if_true]

theorem extr (s : ByteArray) (a b : Nat) (h : b ≤ s.size) : s.extract a b = ofL ((s.data.toList.take b).drop a) := by
  have e : (s.extract a b).data.toList = (s.data.toList.take b).drop a := by
    rw [extract_data, List.drop_take]
  rw [← e]; rfl
theorem ev_cut_loop (s : ByteArray) (hn : s.size ≤ 1048576) : ∀ (d i from_ : Nat) (out : List ByteArray), i + d = s.size → from_ ≤ i → out.length ≤ i →
    Ev (fun k => spec_l01Cut.l0 k s 44 out (from_ : Int) (i : Int)) (out ++ (cutF 44 ((s.data.toList.take i).drop from_) (s.data.toList.drop i)).map ofL) := by
  intro d
  induction d with
  | zero =>
    intro i f out hi hf ho
    obtain rfl : i = s.size := by omega
    rw [show s.data.toList.drop s.size = [] from List.drop_of_length_le (by rw [size_len]; omega)]
    have hw : wrap64 ((s.size : Int) + 1) = ((s.size + 1 : Nat) : Int) := by rw [IntWalk.wrap64_in _ (by omega)]; omega
    refine Ev.step (f := fun k => spec_l01Cut.l0 k s 44 (out ++ [s.extract f s.size]) ((s.size + 1 : Nat) : Int) ((s.size + 1 : Nat) : Int)) (fun k => ?_) ?_
    · simp only [spec_l01Cut.l0]
      rw [if_pos (by omega), if_pos trivial, if_pos (by omega), if_pos (by omega), if_pos (by omega), hw]
      rfl
    · refine Ev.step (f := fun _ => some (out ++ [s.extract f s.size])) (fun k => ?_) ?_
      · simp only [spec_l01Cut.l0]
        rw [if_neg (by omega)]
      · rw [extr s f s.size (Nat.le_refl _)]
        exact Ev.now _
  | succ d ih =>
    intro i f out hi hf ho
    have hlt : i < s.data.toList.length := by rw [size_len]; omega
    have hw : wrap64 ((i : Int) + 1) = ((i + 1 : Nat) : Int) := by rw [IntWalk.wrap64_in _ (by omega)]; omega
    have hbt := bt_get s i hlt
    rw [List.drop_eq_getElem_cons hlt]
    by_cases hc : s.data.toList[i] = 44
    · have hN := ih (i + 1) (i + 1) (out ++ [s.extract f i]) (by omega) (Nat.le_refl _) (by simp; omega)
      rw [List.drop_of_length_le (by rw [List.length_take]; omega)] at hN
      rw [cutF, if_pos hc, List.map_cons, ← extr s f i (by omega)]
      rw [List.append_assoc] at hN
      refine Ev.step (fun k => ?_) hN
      simp only [spec_l01Cut.l0]
      rw [if_pos (by omega), if_neg (by omega), if_pos (by omega), if_pos (by omega), hbt, hc, if_pos (by decide), if_pos (by omega), if_pos (by omega), if_pos (by omega), hw]
      rfl
    · have hN := ih (i + 1) f out (by omega) (by omega) (by omega)
      rw [take_next _ _ hlt, List.drop_append_of_le_length (by rw [List.length_take]; omega)] at hN
      rw [cutF, if_neg hc]
      refine Ev.step (fun k => ?_) hN
      simp only [spec_l01Cut.l0]
      have hne : ¬ ((s.data.toList[i]).toNat : Int) = 44 := by
        intro e
        refine hc (UInt8.toNat_inj.1 ?_)
        have q : (44 : UInt8).toNat = 44 := rfl
        omega
      rw [if_pos (by omega), if_neg (by omega), if_pos (by omega), if_pos (by omega), hbt, if_neg hne, hw]
def cutB (s : ByteArray) : List ByteArray := (cutF 44 [] s.data.toList).map ofL
theorem ev_Cut (s : ByteArray) (hn : s.size ≤ 1048576) : Ev (fun k => spec_l01Cut.f k s 44) (cutB s) := by
  have h := ev_cut_loop s hn s.size 0 0 [] (by omega) (Nat.le_refl _) (by simp)
  simpa [cutB, spec_l01Cut.f] using h

/-- the numbers of a list: none if a part is no number -/
def listD : List ByteArray → Option (List Int)
  | [] => some []
  | s :: r => (valD s).bind fun n => (listD r).map (n :: ·)
def readD (s : ByteArray) : List Int × Bool :=
  if s.data.toList = [110, 111, 110, 101] then ([], true)
  else if 64 < (cutB s).length then ([], false)
  else match listD (cutB s) with
    | some l => (l, true)
    | none => ([], false)
theorem ev_num_loop (ps : List ByteArray) (hp : ps.length ≤ 64) : ∀ (d i : Nat) (out : List Int), i + d = ps.length → out.length ≤ i →
    Ev (fun k => spec_l01Numbers.l0 k out ps (i : Int)) (match listD (ps.drop i) with | some l => (out ++ l, true) | none => ([], false)) := by
  intro d
  induction d with
  | zero =>
    intro i out hi ho
    rw [List.drop_of_length_le (by omega)]
    simp only [listD, List.append_nil]
    refine Ev.step (f := fun _ => some (out, true)) (fun k => ?_) (Ev.now _)
    simp only [spec_l01Numbers.l0]
    rw [if_neg (by omega)]
  | succ d ih =>
    intro i out hi ho
    have hlt : i < ps.length := by omega
    have hw : wrap64 ((i : Int) + 1) = ((i + 1 : Nat) : Int) := by rw [IntWalk.wrap64_in _ (by omega)]; omega
    have hr : rdOf ByteArray.empty ps (i : Int) = ps[i] := by unfold rdOf; simp [hlt]
    rw [List.drop_eq_getElem_cons hlt]
    refine Ev.step (f := fun k => (spec_l01Value.f k ps[i]).bind fun bt => if bt.2 = true then (if out.length < 17592186044416 then spec_l01Numbers.l0 k (out ++ [bt.1]) ps ((i + 1 : Nat) : Int) else none) else some ([], false)) (fun k => ?_) ?_
    · simp only [spec_l01Numbers.l0]
      rw [if_pos (by omega), if_pos (by omega), hr, hw]
    · refine Ev.bind (ev_Value ps[i]) ?_
      simp only [listD]
      cases hv : valD ps[i] with
      | none =>
        simp only [Option.isSome_none, Bool.false_eq_true, if_false, Option.bind_none]
        exact Ev.now _
      | some n =>
        simp only [Option.isSome_some, if_true, Option.bind_some, Option.getD_some]
        rw [show (fun k => if out.length < 17592186044416 then spec_l01Numbers.l0 k (out ++ [n]) ps ((i + 1 : Nat) : Int) else none) = fun k => spec_l01Numbers.l0 k (out ++ [n]) ps ((i + 1 : Nat) : Int) from funext fun k => if_pos (by omega)]
        have hN := ih (i + 1) (out ++ [n]) (by omega) (by simp; omega)
        cases hl : listD (ps.drop (i + 1)) with
        | none => rw [hl] at hN; simpa using hN
        | some l => rw [hl] at hN; simpa using hN
theorem ev_ReadList (s : ByteArray) (hn : s.size ≤ 1048576) : Ev (fun k => spec_ReadList.f k s) (readD s) := by
  refine Ev.congr (f := fun k => (spec_l01Numbers.f k s).bind fun bt => some (bt.1, bt.2)) (fun k => rfl) ?_
  refine Ev.bind (a := readD s) ?_ (Ev.now _)
  unfold readD
  by_cases h0 : s.data.toList = [110, 111, 110, 101]
  · rw [if_pos h0]
    refine Ev.congr (f := fun _ => some ([], true)) (fun k => ?_) (Ev.now _)
    unfold spec_l01Numbers.f
    simp only [Option.bind_some]
    rw [if_pos (by rw [ByteArray.toList_eq]; exact h0)]
  · rw [if_neg h0]
    refine Ev.congr (f := fun k => (spec_l01Cut.f k s 44).bind fun t => if (t.length : Int) > 64 then some ([], false) else spec_l01Numbers.l0 k [] t 0) (fun k => ?_) ?_
    · unfold spec_l01Numbers.f
      simp only [Option.bind_some]
      rw [if_neg (by rw [ByteArray.toList_eq]; exact h0)]
    · refine Ev.bind (ev_Cut s hn) ?_
      by_cases hg : 64 < (cutB s).length
      · rw [if_pos hg]
        refine Ev.congr (f := fun _ => some ([], false)) (fun k => ?_) (Ev.now _)
        rw [if_pos (by omega)]
      · rw [if_neg hg]
        refine Ev.congr (f := fun k => spec_l01Numbers.l0 k [] (cutB s) ((0 : Nat) : Int)) (fun k => ?_) ?_
        · rw [if_neg (by omega)]; rfl
        · have hN := ev_num_loop (cutB s) (by omega) (cutB s).length 0 [] (by omega) (by simp)
          simpa using hN
end Go.Proofs.YtecimbcioajonaaDoor
