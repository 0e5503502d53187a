/- Texts cut at commas: plainly, and the reference's cut walked; the program's parts. -/
import Derived.Test.YtkemghecglbleaaGreatDoorGs
import Derived.Lib.SplitLaws
import Derived.Lib.SmallJoins
namespace Go.Proofs.YtkemghecglbleaaGreatDoor
set_option maxRecDepth 100000
set_option linter.unusedVariables false
open Go.Lib Go.RowKit Go.Sort
def cutF (m : UInt8) : List UInt8 → List UInt8 → List (List UInt8)
  | pre, [] => [pre]
  | pre, c :: r => if c = m then pre :: cutF m [] r else cutF m (pre ++ [c]) r
/-! the library's cut is the plain one -/
theorem cutF_miss : ∀ (l pre : List UInt8), indexByte l 44 = -1 → cutF 44 pre l = [pre ++ l]
  | [], pre, _ => by simp [cutF]
  | b :: l, pre, h => by
    unfold indexByte at h
    by_cases hb : (b == 44) = true
    · rw [if_pos hb] at h; omega
    · rw [if_neg hb] at h
      have hne : ¬ b = 44 := fun e => hb (by rw [e]; rfl)
      have hl : indexByte l 44 = -1 := by
        by_cases q : (indexByte l 44 == -1) = true
        · exact beq_iff_eq.1 q
        · rw [if_neg q] at h
          have := indexByte_ge l 44
          omega
      rw [cutF, if_neg hne, cutF_miss l _ hl]
      simp
theorem cutF_hit : ∀ (l pre : List UInt8) (i : Nat), indexByte l 44 = (i : Int) → cutF 44 pre l = (pre ++ l.take i) :: cutF 44 [] (l.drop (i + 1)) ∧ i < l.length
  | [], pre, i, h => by simp only [indexByte] at h; omega
  | b :: l, pre, i, h => by
    unfold indexByte at h
    by_cases hb : (b == 44) = true
    · rw [if_pos hb] at h
      have e : b = 44 := beq_iff_eq.1 hb
      obtain rfl : i = 0 := by omega
      rw [cutF, if_pos e]
      exact ⟨by simp, by simp⟩
    · rw [if_neg hb] at h
      have hne : ¬ b = 44 := fun e => hb (by rw [e]; rfl)
      by_cases q : (indexByte l 44 == -1) = true
      · rw [if_pos q] at h; omega
      · rw [if_neg q] at h
        have hge := indexByte_ge l 44
        obtain ⟨j, rfl⟩ : ∃ j, i = j + 1 := ⟨i - 1, by have : indexByte l 44 ≠ -1 := fun e => q (by rw [e]; rfl)
                                                       omega⟩
        obtain ⟨h1, h2⟩ := cutF_hit l (pre ++ [b]) j (by omega)
        rw [cutF, if_neg hne, h1]
        exact ⟨by simp, by simp; omega⟩
theorem split_cut (n : Nat) : ∀ (l : List UInt8), l.length ≤ n → splitK [44] 0 (count l [44]) l = cutF 44 [] l := by
  induction n with
  | zero =>
    intro l hl
    have : l = [] := List.eq_nil_of_length_eq_zero (by omega)
    subst this
    rfl
  | succ n ih =>
    intro l hl
    by_cases h : index l [44] = -1
    · rw [count_miss h, cutF_miss l [] (by rw [← index_one]; exact h)]
      rfl
    · have hge := index_ge l [44]
      obtain ⟨i, hi⟩ : ∃ i : Nat, index l [44] = (i : Int) := ⟨(index l [44]).toNat, by omega⟩
      obtain ⟨h1, h2⟩ := cutF_hit l [] i (by rw [← index_one]; exact hi)
      rw [count_hit (by simp) hi, h1, show 1 + count (l.drop (i + ([44] : List UInt8).length)) [44] = count (l.drop (i + 1)) [44] + 1 from Nat.add_comm _ _, splitK, if_neg (by rw [hi]; simp), hi]
      have := ih (l.drop (i + 1)) (by rw [List.length_drop]; omega)
      simp only [Int.toNat_natCast, Nat.add_zero, List.nil_append, List.length_singleton, this]
def cutB (s : ByteArray) : List ByteArray := (cutF 44 [] s.data.toList).map ofB
theorem split_is (s : ByteArray) : splitB ⟨#[44]⟩ 0 (countB s ⟨#[44]⟩) s = cutB s := by
  have h := splitB_data ⟨#[44]⟩ 0 (countB s ⟨#[44]⟩) s
  have h2 := split_cut s.data.toList.length s.data.toList (Nat.le_refl _)
  have h3 : (splitB ⟨#[44]⟩ 0 (countB s ⟨#[44]⟩) s).map (fun x => ofB x.data.toList) = cutB s := by
    rw [show (fun x : ByteArray => ofB x.data.toList) = ofB ∘ (fun x : ByteArray => x.data.toList) from rfl, ← List.map_map, h]
    exact congrArg (List.map ofB) h2
  rw [← h3]
  conv => lhs; rw [← List.map_id (splitB ⟨#[44]⟩ 0 (countB s ⟨#[44]⟩) s)]
  rfl
theorem split_len (s : ByteArray) : countB s ⟨#[44]⟩ + 1 = (cutB s).length := by
  rw [← split_is, splitB_all ⟨#[44]⟩ (by decide) 0 _ s rfl]
theorem size_len (s : ByteArray) : s.data.toList.length = s.size := by rw [Array.length_toList]; rfl
theorem take_next (l : List UInt8) (i : Nat) (h : i < l.length) : l.take (i + 1) = l.take i ++ [l[i]] := by
  rw [List.take_add_one, List.getElem?_eq_getElem h]; rfl
theorem extr (s : ByteArray) (a b : Nat) (h : b ≤ s.size) : s.extract a b = ofB ((s.data.toList.take b).drop a) := by
  have e : (s.extract a b).data.toList = (s.data.toList.take b).drop a := by
    rw [extract_data, List.drop_take]
  rw [← e]; rfl
/-- what is left to cut behind k bytes, the last part begun at m -/
def cutR (s : ByteArray) (m k : Nat) : List ByteArray := (cutF 44 ((s.data.toList.take k).drop m) (s.data.toList.drop k)).map ofB
theorem cutR_hit (s : ByteArray) (m k : Nat) (hk : k < s.size) (h : s[k] = 44) : cutR s m k = s.extract m k :: cutR s (k + 1) (k + 1) := by
  have hl : k < s.data.toList.length := by rw [size_len]; exact hk
  have e : s.data.toList.drop k = s[k] :: s.data.toList.drop (k + 1) := List.drop_eq_getElem_cons hl
  unfold cutR
  rw [e, cutF, if_pos h, List.map_cons, ← extr s m k (by omega), List.drop_of_length_le (i := k + 1) (l := s.data.toList.take (k + 1)) (by rw [List.length_take]; omega)]
theorem cutR_miss (s : ByteArray) (m k : Nat) (hk : k < s.size) (hm : m ≤ k) (h : ¬ s[k] = 44) : cutR s m k = cutR s m (k + 1) := by
  have hl : k < s.data.toList.length := by rw [size_len]; exact hk
  have e : s.data.toList.drop k = s[k] :: s.data.toList.drop (k + 1) := List.drop_eq_getElem_cons hl
  unfold cutR
  rw [e, cutF, if_neg h, take_next _ _ hl, List.drop_append_of_le_length (by rw [List.length_take]; omega)]
  rfl
theorem cutR_end (s : ByteArray) (m : Nat) : cutR s m s.size = [s.extract m s.size] := by
  unfold cutR
  rw [show s.data.toList.drop s.size = [] from List.drop_of_length_le (by rw [size_len]; omega), cutF, List.map_singleton, ← extr s m s.size (Nat.le_refl _)]
theorem cutR_start (s : ByteArray) : cutR s 0 0 = cutB s := by simp [cutR, cutB]
theorem cutF_size : ∀ (l pre : List UInt8), ∀ p ∈ cutF 44 pre l, p.length ≤ pre.length + l.length
  | [], pre, p, h => by simp only [cutF, List.mem_singleton] at h; subst h; simp
  | b :: l, pre, p, h => by
    rw [cutF] at h
    split at h
    · rcases List.mem_cons.1 h with rfl | h
      · omega
      · have := cutF_size l [] p h
        simp only [List.length_nil, List.length_cons] at this ⊢
        omega
    · have := cutF_size l (pre ++ [b]) p h
      simp only [List.length_append, List.length_cons, List.length_nil] at this ⊢
      omega
theorem cutB_size (s : ByteArray) : ∀ p ∈ cutB s, p.size ≤ s.size := by
  intro p hp
  obtain ⟨l, hl, rfl⟩ := List.mem_map.1 hp
  have := cutF_size s.data.toList [] l hl
  rw [ofB_size]
  rw [size_len] at this
  simpa using this
theorem cutF_len : ∀ (l pre : List UInt8), (cutF 44 pre l).length ≤ l.length + 1
  | [], pre => by simp [cutF]
  | b :: l, pre => by
    rw [cutF]
    split
    · have := cutF_len l []
      simp; omega
    · have := cutF_len l (pre ++ [b])
      simp; omega
theorem cutB_len (s : ByteArray) : (cutB s).length ≤ s.size + 1 := by
  unfold cutB
  rw [List.length_map, ← size_len]
  exact cutF_len _ _
/-- what is left as a loop's fact -/
def CutAt (s : ByteArray) (m k : Nat) (out : List ByteArray) : Prop := if k ≤ s.size then cutB s = out ++ cutR s m k else cutB s = out
/-- a slice of texts that reads as these -/
def Sr (w : World) (a : Option Addr) (ws : List ByteArray) : Prop := ws = [] ∨ ∃ b, a = some ⟨b, 0, none⟩ ∧ b < w.heap.size ∧ ∀ j x, ws[j]? = some x → w.cell? ⟨b, j, none⟩ = some (.string x)
theorem Sr.below {w w' : World} {a : Option Addr} {ws : List ByteArray} (h : Sr w a ws) (hb : Below w.heap.size w w') : Sr w' a ws := by
  rcases h with h | ⟨b, rfl, h1, h2⟩
  · exact .inl h
  · exact .inr ⟨b, rfl, Nat.lt_of_lt_of_le h1 hb.size, fun j x hx => (hb.cell (p := ⟨b, j, none⟩) h1).trans (h2 j x hx)⟩
theorem Sr.at {w : World} {a : Option Addr} {ws : List ByteArray} (h : Sr w a ws) {k : Nat} (hk : k < ws.length) : ∃ b, a = some ⟨b, 0, none⟩ ∧ w.cell? ⟨b, k, none⟩ = some (.string ws[k]) := by
  rcases h with h | ⟨b, rfl, h1, h2⟩
  · rw [h] at hk; cases hk
  · exact ⟨b, rfl, h2 k _ (List.getElem?_eq_getElem hk)⟩
theorem Ows.Sr {w : World} {base : Nat} {v : Value} {ws : List ByteArray} (h : Ows w base v ws) : ∃ a cap, v = .slice a ws.length cap ∧ Sr w a ws := by
  rcases h.2 with ⟨rfl, h0⟩ | ⟨g, c, cur, rfl, h1, h2, h3, h4, h5, h6⟩
  · have : ws = [] := List.eq_nil_of_length_eq_zero h0
    subst this
    exact ⟨none, 0, rfl, .inl rfl⟩
  · refine ⟨_, _, rfl, .inr ⟨g, rfl, (Array.getElem?_eq_some_iff.1 h2).1, fun j x hx => ?_⟩⟩
    have hj := (List.getElem?_eq_some_iff.1 hx).1
    simp only [World.cell?, h2]
    have e : cur[j]? = (ws.map Value.string)[j]? := by
      rw [← h6, List.getElem?_take_of_lt (by omega)]
      simp
    simp [e, hx]
def partsD (s : ByteArray) : List ByteArray := if s.data.toList = [110, 111, 110, 101] then [] else cutB s
theorem none_yes {s : ByteArray} (h : s.data.toList = [110, 111, 110, 101]) : (s.toList == ([110, 111, 110, 101] : List UInt8)) = true ∧ (s.toList != ([110, 111, 110, 101] : List UInt8)) = false := by
  have e : s.toList = [110, 111, 110, 101] := by rw [ByteArray.toList_eq]; exact h
  exact ⟨beq_iff_eq.2 e, bne_eq_false_iff_eq.2 e⟩
theorem none_no {s : ByteArray} (h : ¬ s.data.toList = [110, 111, 110, 101]) : (s.toList == ([110, 111, 110, 101] : List UInt8)) = false ∧ (s.toList != ([110, 111, 110, 101] : List UInt8)) = true := by
  have e : ¬ s.toList = [110, 111, 110, 101] := by rw [ByteArray.toList_eq]; exact h
  exact ⟨beq_eq_false_iff_ne.2 e, bne_iff_ne.2 e⟩
/-- what the two error variables hold, and a number of the library's -/
def Ev2 (w : World) : Prop := ((∃ tp p, w.cell? ⟨2, 0, none⟩ = some (.iface tp p)) ∧ ∃ tp p, w.cell? ⟨3, 0, none⟩ = some (.iface tp p)) ∧ ∃ m, w.cell? ⟨4, 0, none⟩ = some (.int .i64 m)
theorem cell_below {w w' : World} {p : Addr} {v : Value} (h : w.cell? p = some v) (hb : Below w.heap.size w w') : w'.cell? p = some v := by
  obtain ⟨b, o, q⟩ := p
  exact (hb.cell (World.block_lt_of_cell? w _ h)).trans h
theorem Ev2.below {w w' : World} (h : Ev2 w) (hb : Below w.heap.size w w') : Ev2 w' := by
  obtain ⟨⟨⟨t1, p1, h1⟩, t2, p2, h2⟩, m, h3⟩ := h
  exact ⟨⟨⟨t1, p1, cell_below h1 hb⟩, t2, p2, cell_below h2 hb⟩, m, cell_below h3 hb⟩
def Wd (w : World) : Prop := Db16 w ∧ Ev2 w
theorem Wd.below {w w' : World} (h : Wd w) (hb : Below w.heap.size w w') : Wd w' := ⟨h.1.below hb, h.2.below hb⟩
set_option maxHeartbeats 1000000 in
theorem impl_partsOrNone (s : ByteArray) (hs : s.size ≤ 1048576) (w : World) (hw : Wd w) :
    Calls Tryz.prog 37 #[.string s] w (fun e w' => ∃ a, e = .returned (.slice a (partsD s).length (partsD s).length) ∧ Sr w' a (partsD s) ∧ Below w.heap.size w w') := by
  unfold partsD
  by_cases h0 : s.data.toList = [110, 111, 110, 101]
  · rw [if_pos h0]
    obtain ⟨e1, e2⟩ := none_yes h0
    clear h0
    go_enter Tryz.func37, Tryz.ntmps37
    go_wp2
    go_ret
    exact ⟨none, rfl, .inl rfl, Below.refl _ _⟩
  · rw [if_neg h0]
    obtain ⟨e1, e2⟩ := none_no h0
    obtain ⟨m, hm⟩ := hw.2.2
    have C := Tryz.strings_Split s ⟨#[44]⟩ m w (by omega) hm (by decide)
    rw [split_len, split_is] at C
    have CC := Lib.hid C
    clear C h0 hm hw
    go_enter Tryz.func37, Tryz.ntmps37
    go_wp2_with fail
    refine CC.out.mono ?_
    rintro _ w1 ⟨rfl, hw1⟩
    have H := Lib.hid hw1
    clear hw1
    go_wp2
    go_ret
    refine ⟨some ⟨w.heap.size, 0, none⟩, rfl, .inr ⟨w.heap.size, rfl, by rw [H.out]; simp, fun j x hx => ?_⟩, by rw [H.out]; exact (Below.refl _ _).alloc (Nat.le_refl _) _⟩
    rw [H.out, World.cell?_alloc_at _ _ _ _ (by simp)]
    simp [hx]
end Go.Proofs.YtkemghecglbleaaGreatDoor
