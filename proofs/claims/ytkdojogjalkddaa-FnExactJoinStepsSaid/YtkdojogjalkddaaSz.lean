/- StateOf: both sides answer alike. -/
import Derived.Test.YtkdojogjalkddaaSv
namespace Go.Proofs.Ytkdojogjalkddaa
set_option maxRecDepth 100000
set_option linter.unusedVariables false
open Go.RowKit

theorem grown_trans {w w' w'' : World} {row : Option Nat} (h : w.grownBy w' row) (h' : w'.grownBy w'' row) : w.grownBy w'' row :=
  ⟨h'.os.trans h.os, h'.tape.trans h.tape, h'.output.trans h.output, Nat.le_trans h.size h'.size, fun k hk hr => (h'.block k (Nat.lt_of_lt_of_le hk h.size) hr).trans (h.block k hk hr)⟩
theorem grown_refl (w : World) (row : Option Nat) : w.grownBy w row := ⟨rfl, rfl, rfl, Nat.le_refl _, fun _ _ _ => rfl⟩

set_option maxHeartbeats 1000000 in
theorem laws_mark2 (base : Nat) (a : Option Addr) (cap : Nat) (k0 : Int) (xs : List Nat) (w : World) (hs : Ow w base (.slice a xs.length cap) xs) (hk0 : 0 ≤ k0) (hk1 : k0 ≤ 4194304) (hn : xs.length ≤ 1048576) :
    Calls Try.prog 39 #[.slice a xs.length cap, .int .i64 k0] w (fun e w' => e = .returned (.int .i64 (k0 + xs.length)) ∧ Ow w' base (.slice a xs.length cap) (marks k0 xs.length) ∧ w.grownBy w' (Value.ownBlock (.slice a xs.length cap))) := by
  have HS := Lib.hid hs
  clear hs
  go_enter Try.func39, Try.ntmps39
  go_wp2
  go_loopw [1, 5] (fun kk i wr => ∃ (j : Nat) (l : List Nat), j ≤ xs.length ∧ i = .int .i64 j ∧ kk = .int .i64 (k0 + j) ∧ Hid (l.length = xs.length ∧ l.take j = (marks k0 xs.length).take j ∧ Ow wr base (.slice a xs.length cap) l ∧ w.grownBy wr (Value.ownBlock (.slice a xs.length cap)))) (fun _ i _ => xs.length - (intOf i).toNat)
  case atStart => exact ⟨0, xs, by omega, rfl, by simp, rfl, by simp, HS.out, grown_refl _ _⟩
  case round =>
    obtain ⟨j, l, hj, rfl, rfl, hR⟩ := hrel
    by_cases hlt : j < xs.length
    · obtain ⟨r1, r2, r3, r4⟩ := hR.out
      obtain ⟨a2, cap2, ev, _, hg⟩ := r3.Fs
      have hl0 : l ≠ [] := by intro q; rw [q] at r1; simp at r1; omega
      obtain ⟨g, rfl, hb⟩ := hg hl0
      injection ev with e1 e2 e3
      subst e1
      subst e3
      clear e2
      rw [← r1] at r3
      obtain ⟨⟨u, hu⟩, hf, _, hset⟩ := r3.set (j := j) (by omega) (floatOfInt .f32 (k0 + (j : Int)))
      have hst := run_store32 (floatOfInt .f32 (k0 + (j : Int))) hu hf
      have HT := Lib.hid (And.intro r1 (And.intro r2 (And.intro hset (grown_trans r4 (grownBy_set wr g j (.float .f32 (floatOfInt .f32 (k0 + (j : Int)))))))))
      clear r1 r2 r3 r4 hset hu hf hb hl0 hR hg HS
      go_wp2
      go_roundw
      case rel =>
        obtain ⟨r1, r2, r3, r4⟩ := HT.out
        refine ⟨j + 1, l.set j (floatOfInt .f32 (k0 + (j : Int))), by omega, by go_num, by go_num, by rw [List.length_set]; exact r1, ?_, by rw [r1] at r3; exact r3, r4⟩
        exact take_set l (marks k0 xs.length) j _ 0 (by omega) (by rw [marks_len]; exact hlt) r2 (marks_get _ _ _ hlt).symm
      case measure => simp [intOf]; omega
    · obtain rfl : j = xs.length := by omega
      go_wp2
      go_ret
      obtain ⟨r1, r2, r3, r4⟩ := hR.out
      refine ⟨rfl, ?_, r4⟩
      have : l = marks k0 xs.length := by
        rw [List.take_of_length_le (by omega), List.take_of_length_le (by rw [marks_len]; omega)] at r2
        exact r2
      rw [← this]
      exact r3

theorem rwB_len {xs : List Nat} {be : Option Nat} (h : rwB xs be = true) : 1 ≤ xs.length ∧ xs.length ≤ 48 := by
  unfold rwB at h
  simp only [Bool.and_eq_true, decide_eq_true_eq] at h
  exact h.1
theorem stL_mem (xs : List Nat) (be en : Option Nat) (r : Nat) (h : (stL xs be en r).all isFin = true) : ∀ x ∈ (stL xs be en r).map (fun c => c.getD 0), x < 4294967296 := by
  intro x hx
  obtain ⟨c, hc, rfl⟩ := List.mem_map.1 hx
  unfold stL at hc
  obtain ⟨i, hi, rfl⟩ := List.mem_map.1 hc
  cases r with
  | zero => show ((some 1065353216 : Option Nat).getD 0) < _; decide
  | succ r =>
    show (stS xs be en (stF xs be en r) i).getD 0 < _
    unfold stS
    cases h : cop .quo .f32 (stP xs be en (stF xs be en r) i) (rootC (stQ xs be en (stF xs be en r) xs.length)) with
    | none => simp
    | some v => exact cop_lt v h
/-! what the statement holds: the first result, the copy of the argument, the second result -/
theorem Ow.later {w w' : World} {b : Nat} {v : Value} {xs : List Nat} (h : Ow w b v xs) (hB : Below w.heap.size w w') : Ow w' b v xs := by
  refine ⟨h.1, ?_⟩
  rcases h.2 with q | ⟨g, c, cur, e, h1, h2, r⟩
  · exact .inl q
  · exact .inr ⟨g, c, cur, e, h1, by rw [hB.block g (Array.getElem?_eq_some_iff.1 h2).1]; exact h2, r⟩
theorem Rw.ow {w : World} {g : Nat} {xs : List Nat} (h : Rw w g xs) (hl : xs.length ≤ 1048577) : Ow w g (.slice (some ⟨g, 0, none⟩) xs.length xs.length) xs := by
  unfold Rw at h
  exact ⟨by simp, .inr ⟨g, xs.length, _, rfl, Nat.le_refl _, h, Nat.le_refl _, by unfold maxLen; omega, by simp, by rw [Nat.mul_one]; exact List.take_of_length_le (by simp)⟩⟩
def Tw (w0 w : World) (v1 : Value) (ys1 : List Nat) (gx n : Nat) (xx : List Nat) (v2 : Value) (ys2 : List Nat) : Prop :=
  Below w0.heap.size w0 w ∧ w0.heap.size ≤ gx ∧ Ow w w0.heap.size v1 ys1 ∧ (∀ k, v1.ownBlock = some k → k < gx) ∧ Ow w gx (.slice (some ⟨gx, 0, none⟩) n n) xx ∧ Ow w (gx + 1) v2 ys2
section
variable {w0 w w' : World} {v1 v2 : Value} {ys1 ys2 xx : List Nat} {gx n : Nat}
theorem Tw.base (h : Tw w0 w v1 ys1 gx n xx v2 ys2) : Below w0.heap.size w0 w := h.1
theorem Tw.o1 (h : Tw w0 w v1 ys1 gx n xx v2 ys2) : Ow w w0.heap.size v1 ys1 := h.2.2.1
theorem Tw.ox (h : Tw w0 w v1 ys1 gx n xx v2 ys2) : Ow w gx (.slice (some ⟨gx, 0, none⟩) n n) xx := h.2.2.2.2.1
theorem Tw.o2 (h : Tw w0 w v1 ys1 gx n xx v2 ys2) : Ow w (gx + 1) v2 ys2 := h.2.2.2.2.2
theorem Tw.drewN (h : Tw w0 w v1 ys1 gx n xx v2 ys2) (m : Nat) : Tw w0 (w.drewN m) v1 ys1 gx n xx v2 ys2 := ⟨below_drewN' h.1 m, h.2.1, h.2.2.1.drewN m, h.2.2.2.1, h.2.2.2.2.1.drewN m, h.2.2.2.2.2.drewN m⟩
theorem Tw.later (h : Tw w0 w v1 ys1 gx n xx v2 ys2) (hB : Below w.heap.size w w') : Tw w0 w' v1 ys1 gx n xx v2 ys2 :=
  ⟨h.1.trans (hB.mono h.1.size), h.2.1, h.2.2.1.later hB, h.2.2.2.1, h.2.2.2.2.1.later hB, h.2.2.2.2.2.later hB⟩
theorem Tw.markX (h : Tw w0 w v1 ys1 gx n xx v2 ys2) {zs : List Nat} (hO : Ow w' gx (.slice (some ⟨gx, 0, none⟩) n n) zs) (hG : w.grownBy w' (some gx)) : Tw w0 w' v1 ys1 gx n zs v2 ys2 :=
  ⟨h.1.grown hG h.1.size (fun k hk => by injection hk with hk; have := h.2.1; omega), h.2.1, h.2.2.1.kept hG (.inr fun q => by have := h.2.2.2.1 gx q; omega), h.2.2.2.1, hO,
    h.2.2.2.2.2.kept hG (.inr fun q => by have := (h.2.2.2.2.2.lt q).1; omega)⟩
theorem Tw.mark2 (h : Tw w0 w v1 ys1 gx n xx v2 ys2) {zs : List Nat} (hO : Ow w' (gx + 1) v2 zs) (hG : w.grownBy w' v2.ownBlock) : Tw w0 w' v1 ys1 gx n xx v2 zs := by
  have hb : ∀ k, v2.ownBlock = some k → gx + 1 ≤ k := fun k hk => (h.2.2.2.2.2.lt hk).1
  refine ⟨h.1.grown hG h.1.size (fun k hk => by have := hb k hk; have := h.2.1; omega), h.2.1, h.2.2.1.kept hG ?_, h.2.2.2.1, h.2.2.2.2.1.kept hG (.inr fun q => ?_), hO⟩
  · cases e : v1.ownBlock with
    | none => exact .inl rfl
    | some k =>
      refine .inr fun q => ?_
      have h1 := h.2.2.2.1 k e
      have h2 := hb k q.symm
      omega
  · have := hb gx (q.symm.trans rfl); omega
end

theorem Fs.ofOw {w : World} {b : Nat} {a : Option Addr} {n c : Nat} {xs : List Nat} (h : Ow w b (.slice a n c) xs) : Fs w a xs := Ow.Fs' h

end Go.Proofs.Ytkdojogjalkddaa
