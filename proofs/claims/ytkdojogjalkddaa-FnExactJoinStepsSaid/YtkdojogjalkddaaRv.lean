/- What slices.Reverse does to a slice of 32-bit numbers; steps handed on if they are valid. -/
import Derived.Test.YtkdojogjalkddaaTp
import Derived.Test.YtkdojogjalkddaaSt
namespace Go.Proofs.Ytkdojogjalkddaa
set_option maxRecDepth 100000
set_option linter.unusedVariables false
open Go.RowKit

def rvP (ys : List Nat) (k m : Nat) : Nat := if m < k ∨ ys.length - k ≤ m then ys.getD (ys.length - 1 - m) 0 else ys.getD m 0
theorem getD_set (l : List Nat) (k x m : Nat) (hk : k < l.length) : (l.set k x).getD m 0 = if m = k then x else l.getD m 0 := by
  rw [List.getD_eq_getElem?_getD, List.getD_eq_getElem?_getD]
  by_cases h : m = k
  · subst h; rw [if_pos rfl, List.getElem?_set_self hk]; rfl
  · rw [if_neg h, List.getElem?_set_ne (fun q => h q.symm)]

theorem Ow.at {w : World} {B g n cap : Nat} {L : List Nat} (h : Ow w B (.slice (some ⟨g, 0, none⟩) n cap) L) {j : Nat} (hj : j < L.length) : w.cell? ⟨g, j, none⟩ = some (.float .f32 (L.getD j 0)) ∧ w.frozen? ⟨g, j, none⟩ = false := by
  obtain rfl := Ow.length h
  refine ⟨?_, World.ownsRow.frozenAt h j⟩
  rw [World.ownsRow.cellAt h j (by omega)]
  simp [hj]
/-- a round of the turning -/
theorem rv_round {w wr : World} {B g cap k x y : Nat} {ys L : List Nat} (hlt : k + 1 < ys.length - k) (r1 : L.length = ys.length) (r2 : ∀ m, m < ys.length → L.getD m 0 = rvP ys k m) (r3 : Ow wr B (.slice (some ⟨g, 0, none⟩) ys.length cap) L) (r4 : w.grownBy wr (some g)) (hx : x = ys.getD k 0) (hy : y = ys.getD (ys.length - 1 - k) 0) :
    ((L.set k y).set (ys.length - 1 - k) x).length = ys.length ∧ (∀ m, m < ys.length → ((L.set k y).set (ys.length - 1 - k) x).getD m 0 = rvP ys (k + 1) m) ∧ Ow ((wr.setCell ⟨g, k, none⟩ (.float .f32 y)).setCell ⟨g, ys.length - 1 - k, none⟩ (.float .f32 x)) B (.slice (some ⟨g, 0, none⟩) ys.length cap) ((L.set k y).set (ys.length - 1 - k) x) ∧
      w.grownBy ((wr.setCell ⟨g, k, none⟩ (.float .f32 y)).setCell ⟨g, ys.length - 1 - k, none⟩ (.float .f32 x)) (some g) := by
  refine ⟨by simp [r1], fun m hm => ?_, ?_, grownBy_trans r4 (grownBy_trans (grownBy_set wr g k _) (grownBy_set _ g _ _))⟩
  · rw [getD_set _ _ _ _ (by simp; omega), getD_set _ _ _ _ (by omega)]
    unfold rvP
    by_cases h1 : m = ys.length - 1 - k
    · rw [if_pos h1, if_pos (by omega), hx, h1, show ys.length - 1 - (ys.length - 1 - k) = k by omega]
    · rw [if_neg h1]
      by_cases h2 : m = k
      · rw [if_pos h2, if_pos (by omega), hy, h2]
      · rw [if_neg h2, r2 m hm]
        unfold rvP
        by_cases h3 : m < k ∨ ys.length - k ≤ m
        · rw [if_pos h3, if_pos (by omega)]
        · rw [if_neg h3, if_neg (by omega)]
  · rw [← r1] at r3 ⊢
    obtain ⟨_, _, _, h1⟩ := r3.set (j := k) (by omega) y
    have h1' : Ow (wr.setCell ⟨g, k, none⟩ (.float .f32 y)) B (.slice (some ⟨g, 0, none⟩) (L.set k y).length cap) (L.set k y) := by rw [List.length_set]; exact h1
    obtain ⟨_, _, _, h2⟩ := h1'.set (j := L.length - 1 - k) (by simp; omega) x
    rw [List.length_set] at h2
    exact h2

set_option maxHeartbeats 4000000 in
theorem slices_Reverse (g cap B : Nat) (ys : List Nat) (w : World) (hO : Ow w B (.slice (some ⟨g, 0, none⟩) ys.length cap) ys) (hl : ys.length ≤ 1048577) :
    Calls Try.prog 37 #[.slice (some ⟨g, 0, none⟩) ys.length cap] w (fun e w' => e = .returned (.tuple #[]) ∧ Ow w' B (.slice (some ⟨g, 0, none⟩) ys.length cap) (tsH ys ys.length) ∧ w.grownBy w' (some g)) := by
  have HO := Lib.hid hO
  clear hO
  go_enter Try.func37, Try.ntmps37
  go_wp2
  go_loopw [2, 3] (fun i j wr => ∃ (k : Nat) (L : List Nat), k ≤ ys.length ∧ i = .int .i64 k ∧ j = .int .i64 ((ys.length : Int) - 1 - k) ∧ Hid (L.length = ys.length ∧ (∀ m, m < ys.length → L.getD m 0 = rvP ys k m) ∧ Ow wr B (.slice (some ⟨g, 0, none⟩) ys.length cap) L ∧ w.grownBy wr (some g))) (fun i _ _ => ys.length - (intOf i).toNat)
  case atStart =>
    refine ⟨0, ys, Nat.zero_le _, rfl, by simp, rfl, fun m hm => ?_, HO.out, grownBy_refl _ _⟩
    unfold rvP
    rw [if_neg (by omega)]
  case round =>
    obtain ⟨k, L, hk, rfl, rfl, hR⟩ := hrel
    by_cases hlt : k + 1 < ys.length - k
    · obtain ⟨r1, r2, r3, r4⟩ := hR.out
      have e1 : L.getD k 0 = ys.getD k 0 := by rw [r2 k (by omega)]; unfold rvP; rw [if_neg (by omega)]
      have e2 : L.getD (ys.length - 1 - k) 0 = ys.getD (ys.length - 1 - k) 0 := by rw [r2 _ (by omega)]; unfold rvP; rw [if_neg (by omega)]
      rw [← r1] at r3
      obtain ⟨ck, fk⟩ := Ow.at r3 (j := k) (by omega)
      obtain ⟨cJ, fJ⟩ := Ow.at r3 (j := ys.length - 1 - k) (by omega)
      rw [e1] at ck
      rw [e2] at cJ
      obtain ⟨y, hy⟩ : ∃ y, y = ys.getD (ys.length - 1 - k) 0 := ⟨_, rfl⟩
      obtain ⟨x, hx⟩ : ∃ x, x = ys.getD k 0 := ⟨_, rfl⟩
      rw [← hx] at ck
      rw [← hy] at cJ
      have hne : k ≠ ys.length - 1 - k := by omega
      have s1 := run_store32 (w := wr.drew) y ck fk
      have s2 := run_store32 (w := (wr.setCell ⟨g, k, none⟩ (.float .f32 y)).drew) x ((cell_set_off (w := wr) hne).trans cJ) (by show (wr.setCell ⟨g, k, none⟩ (.float .f32 y)).frozen? _ = false; rw [World.frozen?_setCell]; exact fJ)
      have HR := Lib.hid (rv_round (w := w) hlt r1 r2 (r1 ▸ r3) r4 hx hy)
      have i0 : (0 : Int) ≤ (ys.length : Int) - 1 - (k : Int) := by omega
      have i1 : (ys.length : Int) - 1 - (k : Int) < (ys.length : Int) := by omega
      have i2 : ((ys.length : Int) - 1 - (k : Int)).toNat = ys.length - 1 - k := by omega
      have i3 : (k : Int) < (ys.length : Int) := by omega
      have i4 : (k : Int) < (ys.length : Int) - 1 - (k : Int) := by omega
      clear r1 r2 r3 r4 e1 e2 hx hy fk fJ hR
      go_upto_region 3 with fail
      go_region_with (fail)
      all_goals
        generalize hW : ((wr.setCell ⟨g, k, none⟩ (.float .f32 y)).setCell ⟨g, ys.length - 1 - k, none⟩ (.float .f32 x)).drew = W2
        have H2 := Lib.hid (show _ ∧ _ ∧ Ow W2 B _ _ ∧ w.grownBy W2 (some g) by
          rw [← hW]
          exact ⟨HR.out.1, HR.out.2.1, HR.out.2.2.1.drewN 1, HR.out.2.2.2.os, HR.out.2.2.2.tape, HR.out.2.2.2.output, HR.out.2.2.2.size, HR.out.2.2.2.block⟩)
        clear hW s1 s2 ck cJ HR
        go_wp2
        go_roundw
        case rel => exact ⟨k + 1, _, by omega, by go_num, vint2 (by omega), H2⟩
        case measure => simp [intOf]; omega
    · have i4 : ¬ (k : Int) < (ys.length : Int) - 1 - (k : Int) := by omega
      obtain ⟨r1, r2, r3, r4⟩ := hR.out
      have hL : L = tsH ys ys.length := by
        apply List.ext_getElem
        · rw [tsH_len, r1]
        · intro m h1 h2
          have e := r2 m (by omega)
          rw [List.getD_eq_getElem?_getD, List.getElem?_eq_getElem h1] at e
          have e2 := tsH_get ys (k := ys.length) (j := m) (by omega)
          rw [List.getD_eq_getElem?_getD, List.getElem?_eq_getElem h2] at e2
          show L[m] = (tsH ys ys.length)[m]
          have e3 : rvP ys k m = ys.getD (ys.length - 1 - m) 0 := by
            unfold rvP
            by_cases h3 : m < k ∨ ys.length - k ≤ m
            · rw [if_pos h3]
            · rw [if_neg h3]
              congr 1
              omega
          exact (e.trans e3).trans e2.symm
      rw [hL] at r3
      have HR := Lib.hid (And.intro r3 r4)
      clear r1 r2 r3 r4 hL hR
      go_wp2
      go_end0
      exact ⟨rfl, HR.out.1, HR.out.2⟩
end Go.Proofs.Ytkdojogjalkddaa
