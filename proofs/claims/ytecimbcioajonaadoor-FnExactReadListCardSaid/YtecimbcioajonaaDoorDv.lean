/- Marks laid into a list of integers of the call's own, and looked for again. -/
import Derived.Test.YtecimbcioajonaaDoorDe
import Derived.Test.YtecimbcioajonaaDoorDk
namespace Go.Proofs.YtecimbcioajonaaDoor
set_option maxRecDepth 100000
set_option linter.unusedVariables false
open Go.Lib Go.RowKit Go.Sort Go.Proofs.YtecimbcioajonaaDoorW.PrintWords
def marksI (k0 : Int) (n : Nat) : List Int := (List.range n).map fun (j : Nat) => k0 + (j : Int)
theorem marksI_len (k0 : Int) (n : Nat) : (marksI k0 n).length = n := by simp [marksI]
theorem marksI_at (k0 : Int) (n j : Nat) (h : j < n) : (marksI k0 n)[j]? = some (k0 + (j : Int)) := by simp [marksI, h]
theorem run_storeI {w : World} {p : Addr} {u : Value} (x : Int) (hc : w.cell? p = some u) (hf : w.frozen? p = false) : (store p (.int .i64 x)).run Tryd.prog w = .ok () (w.setCell p (.int .i64 x)) := by
  rw [run_store Tryd.prog w p (.int .i64 x) .plain rfl, hc, hf]; rfl
theorem Oi.R {w : World} {b : Nat} {v : Value} {xs : List Int} (h : Oi w b v xs) : (Kd.int .i64).R 2 w b (fun _ => True) v xs := Kd.R_of_own (enc := Value.int .i64) h (fun _ _ => trivial)
theorem Oi.C {w : World} {b : Nat} {v : Value} {xs : List Int} (h : Oi w b v xs) : ∃ A c, v = .slice A xs.length c ∧ xs.length ≤ c ∧ CI w A xs := Kd.R_reads h.R
theorem Oi_of_R {w : World} {b : Nat} {ok : Nat → Prop} {v : Value} {xs : List Int} (h : (Kd.int .i64).R 2 w b ok v xs) : Oi w b v xs := Kd.own_of_R (enc := Value.int .i64) h
theorem Oi.set {w : World} {base g cap : Nat} {xs : List Int} (h : Oi w base (.slice (some ⟨g, 0, none⟩) xs.length cap) xs) {j : Nat} (hj : j < xs.length) (x : Int) :
    (∃ u, w.cell? ⟨g, j, none⟩ = some u) ∧ w.frozen? ⟨g, j, none⟩ = false ∧ base ≤ g ∧ Oi (w.setCell ⟨g, j, none⟩ (.int .i64 x)) base (.slice (some ⟨g, 0, none⟩) xs.length cap) (xs.set j x) := by
  obtain ⟨h1, h2⟩ := Kd.R_cell (d := (0 : Int)) (enc := Value.int .i64) h.R (j : Int) (by omega) (by omega)
  obtain ⟨h3, _⟩ := Kd.R_put (enc := Value.int .i64) h.R (j : Int) x
  rw [Int.toNat_natCast] at h1 h2 h3
  refine ⟨⟨_, h1⟩, h2, ?_, by have := Oi_of_R h3; exact this⟩
  rcases h.2 with ⟨q, _⟩ | ⟨g', c, cur, q, hb, _⟩
  · cases q
  · cases q; exact hb
theorem take_setI (l xs : List Int) (k : Nat) (x : Int) (hk : k < l.length) (h : l.take k = xs.take k) (hx : xs[k]? = some x) : (l.set k x).take (k + 1) = xs.take (k + 1) := by
  rw [List.take_add_one, List.take_add_one, List.take_set_of_le (Nat.le_refl _), h, hx]
  simp [hk]
set_option maxHeartbeats 1000000 in
theorem laws_markInt64S' (base : Nat) (a : Option Addr) (cap : Nat) (k0 : Int) (xs : List Int) (w : World) (hs : Oi w base (.slice a xs.length cap) xs) (hk0 : 0 ≤ k0) (hk1 : k0 ≤ 1048576) (hn : xs.length ≤ 1048576) :
    Calls Tryd.prog 20 #[.slice a xs.length cap, .int .i64 k0] w (fun e w' => e = .returned (.int .i64 (k0 + xs.length)) ∧ Oi w' base (.slice a xs.length cap) (marksI k0 xs.length) ∧ Below base w w') := by
  have HS := Lib.hid hs
  clear hs
  go_enter Tryd.func20, Tryd.ntmps20
  go_wp2
  go_loopw [1, 5] (fun kk i wr => ∃ (j : Nat) (l : List Int), j ≤ xs.length ∧ i = .int .i64 j ∧ kk = .int .i64 (k0 + j) ∧ Hid (l.length = xs.length ∧ l.take j = (marksI k0 xs.length).take j ∧ Oi wr base (.slice a xs.length cap) l ∧ Below base w wr)) (fun _ i _ => xs.length - (Lib.intOf i).toNat)
  case atStart => exact ⟨0, xs, by omega, rfl, by simp, rfl, by simp, HS.out, Below.refl _ _⟩
  case round =>
    obtain ⟨j, l, hj, rfl, rfl, hR⟩ := hrel
    by_cases hlt : j < xs.length
    · obtain ⟨r1, r2, r3, r4⟩ := hR.out
      obtain ⟨g, rfl, hb⟩ : ∃ g, a = some ⟨g, 0, none⟩ ∧ base ≤ g := by
        rcases r3.2 with ⟨q, hh⟩ | ⟨g', c, cur, q, hb, _⟩
        · have : l.length = 0 := by simpa using hh
          omega
        · injection q with q1 q2 q3
          exact ⟨g', q1, hb⟩
      rw [← r1] at r3
      obtain ⟨⟨u, hu⟩, hf, _, hset⟩ := r3.set (j := j) (by omega) (k0 + (j : Int))
      have hst := run_storeI (k0 + (j : Int)) hu hf
      have HT := Lib.hid (And.intro r1 (And.intro r2 (And.intro hset (r4.setCell (p := ⟨g, j, none⟩) hb (.int .i64 (k0 + (j : Int)))))))
      clear r1 r2 r3 r4 hset hst hb hR HS
      go_wp2
      go_roundw
      case rel =>
        obtain ⟨r1, r2, r3, r4⟩ := HT.out
        refine ⟨j + 1, l.set j (k0 + (j : Int)), by omega, by go_num, by go_num, by rw [List.length_set]; exact r1, ?_, by rw [r1] at r3; exact r3, r4⟩
        exact take_setI l (marksI k0 xs.length) j _ (by omega) r2 (marksI_at _ _ _ hlt)
      case measure => simp [Lib.intOf]; omega
    · obtain rfl : j = xs.length := by omega
      go_wp2
      go_ret
      obtain ⟨r1, r2, r3, r4⟩ := hR.out
      refine ⟨rfl, ?_, r4⟩
      have : l = marksI k0 xs.length := by
        rw [List.take_of_length_le (by omega), List.take_of_length_le (by rw [marksI_len]; omega)] at r2
        exact r2
      rw [← this]
      exact r3
set_option maxHeartbeats 1000000 in
theorem laws_heldInt64S' (a : Option Addr) (cap : Nat) (k0 : Int) (n : Nat) (w : World) (hs : CI w a (marksI k0 n)) (hk0 : 0 ≤ k0) (hk1 : k0 ≤ 1048576) (hn : n ≤ 1048576) :
    Calls Tryd.prog 21 #[.slice a n cap, .int .i64 k0] w (RetB (.int .i64 (k0 + n)) w) := by
  have HS := Lib.hid hs
  clear hs
  go_enter Tryd.func21, Tryd.ntmps21
  go_wp2
  go_loopw [1, 5] (fun kk i wr => ∃ j : Nat, j ≤ n ∧ i = .int .i64 j ∧ kk = .int .i64 (k0 + j) ∧ Hid (Below w.heap.size w wr)) (fun _ i _ => n - (Lib.intOf i).toNat)
  case atStart => exact ⟨0, by omega, rfl, by simp, Below.refl _ _⟩
  case round =>
    obtain ⟨j, hj, rfl, rfl, hB⟩ := hrel
    by_cases hlt : j < n
    · obtain ⟨ad, rfl, hcell⟩ := Kd.at_int (Kd.C_below HS.out hB.out) (j : Int) (by omega) (by rw [marksI_len]; omega)
      rw [show rd (marksI k0 n) (j : Int) = k0 + (j : Int) by unfold rd; simp [marksI_at k0 n j hlt], Int.toNat_natCast] at hcell
      go_wp2
      go_roundw
      case rel => exact ⟨j + 1, by omega, by go_num, by go_num, hB.out⟩
      case measure => simp [Lib.intOf]; omega
    · obtain rfl : j = n := by omega
      go_wp2
      go_ret
      exact ⟨rfl, hB.out⟩
end Go.Proofs.YtecimbcioajonaaDoor
