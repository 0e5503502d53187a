/- Slices of a function's own that grow by 'append'; marks laid into a result. -/
import Derived.Test.YtbadlhakedppiaaDoorCb
import Derived.Laws.AppendOwn
import Derived.OwnWalk
namespace Go.Proofs.YtbadlhakedppiaaDoor
set_option maxRecDepth 100000
open Go.RowKit

/-- a slice of the call's own, in a block from 'base' on (or nil), that holds these numbers -/
def Ow (w : World) (base : Nat) (v : Value) (xs : List Nat) : Prop := w.ownsRow base 38 1 v xs.length (xs.map (Value.float .f32))

theorem Ow.Fs {w : World} {base : Nat} {v : Value} {xs : List Nat} (h : Ow w base v xs) : ∃ a cap, v = .slice a xs.length cap ∧ Fs w a xs ∧ (xs ≠ [] → ∃ g, a = some ⟨g, 0, none⟩ ∧ base ≤ g) := by
  obtain ⟨h1, ⟨rfl, h3⟩ | ⟨g, cap, cur, rfl, hb, hh, hn, hc, hs, ht⟩⟩ := h
  · have : xs = [] := List.eq_nil_of_length_eq_zero h3
    subst this
    exact ⟨none, 0, rfl, .inl rfl, fun q => absurd rfl q⟩
  · refine ⟨_, _, rfl, ?_, fun _ => ⟨g, rfl, hb⟩⟩
    refine .inr ⟨g, 0, rfl, (Array.getElem?_eq_some_iff.1 hh).1, fun j hj => ?_⟩
    rw [Nat.zero_add]
    simp only [World.cell?, hh]
    have e : cur[j]? = (xs.map (Value.float .f32))[j]? := by
      rw [← ht, List.getElem?_take_of_lt (by omega)]
      simp
    simp [e, hj]

theorem run_app32 (w : World) (base : Nat) (v : Value) (xs : List Nat) (x g : Nat) (h : Ow w base v xs) (hg : w.cell? ⟨g, 0, none⟩ = some (.float .f32 x)) (hbase : base ≤ w.heap.size) (hl : xs.length ≤ 1048576) (ty : TypeId) :
    ∃ v' w', (Builtin.append_ #[22, 22] ty #[v, .slice (some ⟨g, 0, none⟩) 1 1]).run Tryd.prog w = .ok v' w' ∧ Ow w' base v' (xs ++ [x]) ∧ w.grownBy w' v.ownBlock := by
  obtain ⟨i, hi, hz0, hz1, hz2⟩ := info_parts (P := Tryd.prog) (e := 38) (z := .float .f32 0) (size := 1) (bytes := 4) (by kernel_rfl)
  obtain ⟨v', w', hr, h2, h3, _⟩ := run_append_own (P := Tryd.prog) w base 22 ty 38 i (.float .f32 0) 1 4 Tryd.underlying22 hi hz0 hz1 hz2 rfl (by omega) v xs.length (xs.map (Value.float .f32)) h ⟨g, 0, none⟩ 1 1 [.float .f32 x] rfl
    (fun j u hj => by
      have : j = 0 := by
        have := (List.getElem?_eq_some_iff.1 hj).1
        simp at this; omega
      subst this
      simp at hj
      subst hj
      exact hg)
    (fun u hu => by simp at hu; subst hu; rfl) (by unfold maxLen; omega) (by omega) hbase
  refine ⟨v', w', hr, ?_, h3⟩
  unfold Ow
  rw [List.length_append, List.map_append]
  exact h2

theorem Ow.length {w : World} {base : Nat} {a : Option Addr} {n cap : Nat} {xs : List Nat} (h : Ow w base (.slice a n cap) xs) : n = xs.length := by
  obtain ⟨h1, ⟨h2, h3⟩ | ⟨g, c, cur, h2, _⟩⟩ := h
  · cases h2; omega
  · cases h2; rfl

theorem Ow.set {w : World} {base g cap : Nat} {xs : List Nat} (h : Ow w base (.slice (some ⟨g, 0, none⟩) xs.length cap) xs) {j : Nat} (hj : j < xs.length) (x : Nat) :
    (∃ u, w.cell? ⟨g, j, none⟩ = some u) ∧ w.frozen? ⟨g, j, none⟩ = false ∧ base ≤ g ∧ Ow (w.setCell ⟨g, j, none⟩ (.float .f32 x)) base (.slice (some ⟨g, 0, none⟩) xs.length cap) (xs.set j x) := by
  obtain ⟨h1, ⟨h2, h3⟩ | ⟨g', c, cur, h2, hb, hh, hn, hc, hs, ht⟩⟩ := h
  · cases h2
  · cases h2
    have hjc : j < cur.size := by omega
    refine ⟨⟨cur[j], by simp [World.cell?, hh, hjc]⟩, by simp [World.frozen?, hh], hb, ?_⟩
    unfold Ow
    rw [List.length_set]
    refine ⟨by simp, .inr ⟨g, cap, cur.setIfInBounds j (.float .f32 x), rfl, hb, ?_, hn, hc, by simpa using hs, ?_⟩⟩
    · rw [setCell_eq_setRow w g j _ _ (0, 0) _ hh, setRow_heap w g _ _ _ (0, 0) hh]
    · rw [List.map_set, ← ht]
      simp [List.take_set]

/-- the marks that the statements lay -/
def marks (k : Int) (n : Nat) : List Nat := (List.range n).map fun (j : Nat) => floatOfInt .f32 (k + (j : Int))
theorem cn_int32 (k : Int) : cn .f32 (floatOfInt .f32 k) = some (floatOfInt .f32 k) := by
  have h := write_not_nan FloatKind.f32.format (d := .number (k < 0) k.natAbs 0) rfl
  unfold cn
  rw [if_neg]
  have : FloatKind.f32.decode (floatOfInt .f32 k) = FloatKind.f32.format.read (FloatKind.f32.format.write (.number (k < 0) k.natAbs 0)) := rfl
  rw [this, h]
  exact Bool.false_ne_true

theorem marks_get (k : Int) (n j : Nat) (hj : j < n) : (marks k n).getD j 0 = floatOfInt .f32 (k + (j : Int)) := by
  unfold marks
  simp [hj]
theorem marks_len (k : Int) (n : Nat) : (marks k n).length = n := by unfold marks; simp

set_option maxHeartbeats 1000000 in
theorem laws_heldFloat32S (a : Option Addr) (cap : Nat) (k0 : Int) (n : Nat) (w : World) (hs : Fs w a (marks k0 n)) (hk0 : 0 ≤ k0) (hk1 : k0 ≤ 1048576) (hn : n ≤ 1048576) :
    Calls Tryd.prog 13 #[.slice a n cap, .int .i64 k0] w (RetV (.int .i64 (k0 + n)) w) := by
  have HS := Lib.hid hs
  clear hs
  go_enter Tryd.func13, Tryd.ntmps13
  go_wp2
  go_loopw [1, 5] (fun kk i wr => ∃ j nq : Nat, j ≤ n ∧ i = .int .i64 j ∧ kk = .int .i64 (k0 + j) ∧ wr = w.drewN nq) (fun _ i _ => n - (intOf i).toNat)
  case atStart => exact ⟨0, 0, by omega, rfl, by simp, rfl⟩
  case round =>
    obtain ⟨j, nq, hj, rfl, rfl, rfl⟩ := hrel
    by_cases hlt : j < n
    · obtain ⟨b1, off1, rfl, _, hc1⟩ := HS.out.at (k := j) (by rw [marks_len]; exact hlt)
      have h1 := hc1 j (by rw [marks_len]; exact hlt)
      clear hc1
      rw [marks_get _ _ _ hlt] at h1
      have hs := neq_self_num (cn_int32 (k0 + (j : Int)))
      go_wp2
      go_roundw
      case rel => exact ⟨j + 1, _, by omega, by go_num, by go_num, rfl⟩
      case measure => simp [intOf]; omega
    · obtain rfl : j = n := by omega
      go_wp2
      go_ret
      exact RetV.mk rfl

set_option maxHeartbeats 1000000 in
theorem laws_markFloat32S (base : Nat) (a : Option Addr) (cap : Nat) (k0 : Int) (xs : List Nat) (w : World) (hs : Ow w base (.slice a xs.length cap) xs) (hk0 : 0 ≤ k0) (hk1 : k0 ≤ 1048576) (hn : xs.length ≤ 1048576) :
    Calls Tryd.prog 12 #[.slice a xs.length cap, .int .i64 k0] w (fun e w' => e = .returned (.int .i64 (k0 + xs.length)) ∧ Ow w' base (.slice a xs.length cap) (marks k0 xs.length) ∧ Below base w w') := by
  have HS := Lib.hid hs
  clear hs
  go_enter Tryd.func12, Tryd.ntmps12
  go_wp2
  go_loopw [1, 5] (fun kk i wr => ∃ (j : Nat) (l : List Nat), j ≤ xs.length ∧ i = .int .i64 j ∧ kk = .int .i64 (k0 + j) ∧ Hid (l.length = xs.length ∧ l.take j = (marks k0 xs.length).take j ∧ Ow wr base (.slice a xs.length cap) l ∧ Below base w wr)) (fun _ i _ => xs.length - (intOf i).toNat)
  case atStart => exact ⟨0, xs, by omega, rfl, by simp, rfl, by simp, HS.out, Below.refl _ _⟩
  case round =>
    obtain ⟨j, l, hj, rfl, rfl, hR⟩ := hrel
    by_cases hlt : j < xs.length
    · obtain ⟨r1, r2, r3, r4⟩ := hR.out
      obtain ⟨a2, cap2, ev, _, hg⟩ := r3.Fs
      have hl0 : l ≠ [] := by intro q; rw [q] at r1; simp at r1; omega
      obtain ⟨g, rfl, hb⟩ := hg hl0
      injection ev with e1 e2 e3
      subst e1
      subst e3
      clear e2
      rw [← r1] at r3
      obtain ⟨⟨u, hu⟩, hf, _, hset⟩ := r3.set (j := j) (by omega) (floatOfInt .f32 (k0 + (j : Int)))
      have hst := run_store32 (floatOfInt .f32 (k0 + (j : Int))) hu hf
      have HT := Lib.hid (And.intro r1 (And.intro r2 (And.intro hset (r4.setCell (p := ⟨g, j, none⟩) hb (.float .f32 (floatOfInt .f32 (k0 + (j : Int))))))))
      clear r1 r2 r3 r4 hset hu hf hb hl0 hR hg HS
      go_wp2
      go_roundw
      case rel =>
        obtain ⟨r1, r2, r3, r4⟩ := HT.out
        refine ⟨j + 1, l.set j (floatOfInt .f32 (k0 + (j : Int))), by omega, by go_num, by go_num, by rw [List.length_set]; exact r1, ?_, by rw [r1] at r3; exact r3, r4⟩
        exact take_set l (marks k0 xs.length) j _ 0 (by omega) (by rw [marks_len]; exact hlt) r2 (marks_get _ _ _ hlt).symm
      case measure => simp [intOf]; omega
    · obtain rfl : j = xs.length := by omega
      go_wp2
      go_ret
      obtain ⟨r1, r2, r3, r4⟩ := hR.out
      refine ⟨rfl, ?_, r4⟩
      have : l = marks k0 xs.length := by
        rw [List.take_of_length_le (by omega), List.take_of_length_le (by rw [marks_len]; omega)] at r2
        exact r2
      rw [← this]
      exact r3
end Go.Proofs.YtbadlhakedppiaaDoor
