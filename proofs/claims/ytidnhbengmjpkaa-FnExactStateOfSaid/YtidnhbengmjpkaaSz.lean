/- StateOf: both sides answer alike. -/
import Derived.Test.YtidnhbengmjpkaaSv
namespace Go.Proofs.Ytidnhbengmjpkaa
set_option maxRecDepth 100000
set_option linter.unusedVariables false
open Go.RowKit

theorem grown_trans {w w' w'' : World} {row : Option Nat} (h : w.grownBy w' row) (h' : w'.grownBy w'' row) : w.grownBy w'' row :=
  ⟨h'.os.trans h.os, h'.tape.trans h.tape, h'.output.trans h.output, Nat.le_trans h.size h'.size, fun k hk hr => (h'.block k (Nat.lt_of_lt_of_le hk h.size) hr).trans (h.block k hk hr)⟩
theorem grown_refl (w : World) (row : Option Nat) : w.grownBy w row := ⟨rfl, rfl, rfl, Nat.le_refl _, fun _ _ _ => rfl⟩

set_option maxHeartbeats 1000000 in
theorem laws_mark2 (base : Nat) (a : Option Addr) (cap : Nat) (k0 : Int) (xs : List Nat) (w : World) (hs : Ow w base (.slice a xs.length cap) xs) (hk0 : 0 ≤ k0) (hk1 : k0 ≤ 1048576) (hn : xs.length ≤ 1048576) :
    Calls Try.prog 22 #[.slice a xs.length cap, .int .i64 k0] w (fun e w' => e = .returned (.int .i64 (k0 + xs.length)) ∧ Ow w' base (.slice a xs.length cap) (marks k0 xs.length) ∧ w.grownBy w' (Value.ownBlock (.slice a xs.length cap))) := by
  have HS := Lib.hid hs
  clear hs
  go_enter Try.func22, Try.ntmps22
  go_wp2
  go_loopw [1, 5] (fun kk i wr => ∃ (j : Nat) (l : List Nat), j ≤ xs.length ∧ i = .int .i64 j ∧ kk = .int .i64 (k0 + j) ∧ Hid (l.length = xs.length ∧ l.take j = (marks k0 xs.length).take j ∧ Ow wr base (.slice a xs.length cap) l ∧ w.grownBy wr (Value.ownBlock (.slice a xs.length cap)))) (fun _ i _ => xs.length - (intOf i).toNat)
  case atStart => exact ⟨0, xs, by omega, rfl, by simp, rfl, by simp, HS.out, grown_refl _ _⟩
  case round =>
    obtain ⟨j, l, hj, rfl, rfl, hR⟩ := hrel
    by_cases hlt : j < xs.length
    · obtain ⟨r1, r2, r3, r4⟩ := hR.out
      obtain ⟨a2, cap2, ev, _, hg⟩ := r3.Fs
      have hl0 : l ≠ [] := by intro q; rw [q] at r1; simp at r1; omega
      obtain ⟨g, rfl, hb⟩ := hg hl0
      injection ev with e1 e2 e3
      subst e1
      subst e3
      clear e2
      rw [← r1] at r3
      obtain ⟨⟨u, hu⟩, hf, _, hset⟩ := r3.set (j := j) (by omega) (floatOfInt .f32 (k0 + (j : Int)))
      have hst := run_store32 (floatOfInt .f32 (k0 + (j : Int))) hu hf
      have HT := Lib.hid (And.intro r1 (And.intro r2 (And.intro hset (grown_trans r4 (grownBy_set wr g j (.float .f32 (floatOfInt .f32 (k0 + (j : Int)))))))))
      clear r1 r2 r3 r4 hset hu hf hb hl0 hR hg HS
      go_wp2
      go_roundw
      case rel =>
        obtain ⟨r1, r2, r3, r4⟩ := HT.out
        refine ⟨j + 1, l.set j (floatOfInt .f32 (k0 + (j : Int))), by omega, by go_num, by go_num, by rw [List.length_set]; exact r1, ?_, by rw [r1] at r3; exact r3, r4⟩
        exact take_set l (marks k0 xs.length) j _ 0 (by omega) (by rw [marks_len]; exact hlt) r2 (marks_get _ _ _ hlt).symm
      case measure => simp [intOf]; omega
    · obtain rfl : j = xs.length := by omega
      go_wp2
      go_ret
      obtain ⟨r1, r2, r3, r4⟩ := hR.out
      refine ⟨rfl, ?_, r4⟩
      have : l = marks k0 xs.length := by
        rw [List.take_of_length_le (by omega), List.take_of_length_le (by rw [marks_len]; omega)] at r2
        exact r2
      rw [← this]
      exact r3

set_option maxHeartbeats 1000000 in
theorem spec_StateOf_bad (a : Option Addr) (c : Nat) (xs : List Nat) (be en : Nat) (R : Int) (w : World) (hs : Fs w a xs) (hl : xs.length ≤ 1048577) (hb : (rwB xs (cn .f32 be) && (isFin (cn .f32 en) && (decide (1 ≤ R) && decide (R ≤ 8)))) = false) :
    Calls Try.prog 30 #[.slice a xs.length c, .float .f32 be, .float .f32 en, .int .i64 R] w (RetV (.tuple #[.slice none 0 0, .bool false]) w) := by
  have HS := Lib.hid hs
  clear hs
  rcases bad_both hb with h | ⟨h, hb⟩
  · have H := Lib.hid h
    clear h hb
    go_enter Try.func30, Try.ntmps30
    go_wp2_with fail
    refine (spec_l02Rows a c xs be _ HS.out hl).mono ?_
    rw [H.out]
    rintro _ _ ⟨n1, rfl, rfl⟩
    go_wp2
    go_ret2
    exact RetV.mk rfl
  · rcases bad_both hb with h2 | ⟨h2, hb⟩
    · have H := Lib.hid (And.intro h h2)
      clear h h2 hb
      go_enter Try.func30, Try.ntmps30
      go_wp2_with fail
      refine (spec_l02Rows a c xs be _ HS.out hl).mono ?_
      rw [H.out.1]
      rintro _ _ ⟨n1, rfl, rfl⟩
      go_wp2_with fail
      refine (spec_l01Finite en _).mono ?_
      rw [H.out.2]
      rintro _ _ ⟨n2, rfl, rfl⟩
      go_wp2
      go_ret2
      exact RetV.mk rfl
    · have H := Lib.hid (And.intro h (And.intro h2 hb))
      clear h h2 hb
      go_enter Try.func30, Try.ntmps30
      go_wp2_with fail
      refine (spec_l02Rows a c xs be _ HS.out hl).mono ?_
      rw [H.out.1]
      rintro _ _ ⟨n1, rfl, rfl⟩
      go_wp2_with fail
      refine (spec_l01Finite en _).mono ?_
      rw [H.out.2.1]
      rintro _ _ ⟨n2, rfl, rfl⟩
      go_wp2_with fail
      refine (spec_l00In _ _ _ _).mono ?_
      rw [H.out.2.2]
      rintro _ _ ⟨n3, rfl, rfl⟩
      go_wp2
      go_ret2
      exact RetV.mk rfl

set_option maxHeartbeats 1000000 in
theorem impl_StateOf_bad (a : Option Addr) (c : Nat) (xs : List Nat) (be en : Nat) (R : Int) (w : World) (hs : Fs w a xs) (hl : xs.length ≤ 1048577) (hb : (rwB xs (cn .f32 be) && (isFin (cn .f32 en) && (decide (1 ≤ R) && decide (R ≤ 8)))) = false) :
    Calls Try.prog 31 #[.slice a xs.length c, .float .f32 be, .float .f32 en, .int .i64 R] w (RetV (.tuple #[.slice none 0 0, .bool false]) w) := by
  have HS := Lib.hid hs
  clear hs
  rcases bad_both hb with h | ⟨h, hb⟩
  · have H := Lib.hid h
    clear h hb
    go_enter Try.func31, Try.ntmps31
    go_wp2_with fail
    refine (impl_areRows a c xs be _ HS.out hl).mono ?_
    rw [H.out]
    rintro _ _ ⟨n1, rfl, rfl⟩
    go_wp2
    go_ret2
    exact RetV.mk rfl
  · rcases bad_both hb with h2 | ⟨h2, hb⟩
    · have H := Lib.hid (And.intro h h2)
      clear h h2 hb
      go_enter Try.func31, Try.ntmps31
      go_wp2_with fail
      refine (impl_areRows a c xs be _ HS.out hl).mono ?_
      rw [H.out.1]
      rintro _ _ ⟨n1, rfl, rfl⟩
      go_wp2_with fail
      refine (impl_IsFinite en _).mono ?_
      rw [H.out.2]
      rintro _ _ ⟨n2, rfl, rfl⟩
      go_wp2
      go_ret2
      exact RetV.mk rfl
    · have H := Lib.hid (And.intro h (And.intro h2 hb))
      clear h h2 hb
      go_enter Try.func31, Try.ntmps31
      go_wp2_with fail
      refine (impl_areRows a c xs be _ HS.out hl).mono ?_
      rw [H.out.1]
      rintro _ _ ⟨n1, rfl, rfl⟩
      go_wp2_with fail
      refine (impl_IsFinite en _).mono ?_
      rw [H.out.2.1]
      rintro _ _ ⟨n2, rfl, rfl⟩
      go_wp2_with fail
      refine (impl_within _ _ _ _).mono ?_
      rw [H.out.2.2]
      rintro _ _ ⟨n3, rfl, rfl⟩
      go_wp2
      go_ret2
      exact RetV.mk rfl

theorem rwB_len {xs : List Nat} {be : Option Nat} (h : rwB xs be = true) : 1 ≤ xs.length ∧ xs.length ≤ 48 := by
  unfold rwB at h
  simp only [Bool.and_eq_true, decide_eq_true_eq] at h
  exact h.1
theorem stL_mem (xs : List Nat) (be en : Option Nat) (r : Nat) (h : (stL xs be en r).all isFin = true) : ∀ x ∈ (stL xs be en r).map (fun c => c.getD 0), x < 4294967296 := by
  intro x hx
  obtain ⟨c, hc, rfl⟩ := List.mem_map.1 hx
  unfold stL at hc
  obtain ⟨i, hi, rfl⟩ := List.mem_map.1 hc
  cases r with
  | zero => show ((some 1065353216 : Option Nat).getD 0) < _; decide
  | succ r =>
    show (stS xs be en (stF xs be en r) i).getD 0 < _
    unfold stS
    cases h : cop .quo .f32 (stP xs be en (stF xs be en r) i) (rootC (stQ xs be en (stF xs be en r) xs.length)) with
    | none => simp
    | some v => exact cop_lt v h
theorem states (xs : List Nat) (be en : Nat) (R : Int) (hb : be < 4294967296) (he : en < 4294967296) (hl : xs.length ≤ 1048577) : ∃ ys b,
    (∀ a c w, Fs w a xs → Calls Try.prog 30 #[.slice a xs.length c, .float .f32 be, .float .f32 en, .int .i64 R] w (RetOw ys b w)) ∧
    (∀ a c w, Fs w a xs → Calls Try.prog 31 #[.slice a xs.length c, .float .f32 be, .float .f32 en, .int .i64 R] w (RetOw ys b w)) ∧ ys.length ≤ 48 ∧ ∀ j, j < ys.length → ys.getD j 0 < 4294967296 := by
  cases hg : (rwB xs (cn .f32 be) && (isFin (cn .f32 en) && (decide (1 ≤ R) && decide (R ≤ 8)))) with
  | false => exact ⟨[], false, fun a c w h => (spec_StateOf_bad a c xs be en R w h hl hg).mono fun _ _ h => h.b.ow, fun a c w h => (impl_StateOf_bad a c xs be en R w h hl hg).mono fun _ _ h => h.b.ow, by simp, by simp⟩
  | true =>
    simp only [Bool.and_eq_true, decide_eq_true_eq] at hg
    obtain ⟨h1, h2, h3, h4⟩ := hg
    obtain ⟨r, rfl⟩ : ∃ r : Nat, R = r := ⟨R.toNat, by omega⟩
    obtain ⟨l1, l2⟩ := rwB_len h1
    cases hx : (stL xs (cn .f32 be) (cn .f32 en) r).all isFin with
    | true =>
      have hw := few_words (L := (stL xs (cn .f32 be) (cn .f32 en) r).map (fun c => c.getD 0)) (n := xs.length) (by unfold stL; simp) l2 (stL_mem _ _ _ _ hx) true
      refine ⟨_, true, fun a c w h => ?_, fun a c w h => ?_, hw.1, hw.2⟩
      · have := (spec_StateOf_good a c xs be en r w h l1 l2 hb he h1 h2 (by omega) (by omega)).mono fun _ _ h => h.ow
        rw [hx] at this
        exact this
      · have := (impl_StateOf_good a c xs be en r w h l1 l2 hb he h1 h2 (by omega) (by omega)).mono fun _ _ h => h.ow
        rw [hx] at this
        exact this
    | false =>
      refine ⟨[], false, fun a c w h => ?_, fun a c w h => ?_, by simp, by simp⟩
      · have := (spec_StateOf_good a c xs be en r w h l1 l2 hb he h1 h2 (by omega) (by omega)).mono fun _ _ h => h.ow
        rw [hx] at this
        exact this
      · have := (impl_StateOf_good a c xs be en r w h l1 l2 hb he h1 h2 (by omega) (by omega)).mono fun _ _ h => h.ow
        rw [hx] at this
        exact this

/-! what the statement holds: the first result, the copy of the argument, the second result -/
theorem Ow.later {w w' : World} {b : Nat} {v : Value} {xs : List Nat} (h : Ow w b v xs) (hB : Below w.heap.size w w') : Ow w' b v xs := by
  refine ⟨h.1, ?_⟩
  rcases h.2 with q | ⟨g, c, cur, e, h1, h2, r⟩
  · exact .inl q
  · exact .inr ⟨g, c, cur, e, h1, by rw [hB.block g (Array.getElem?_eq_some_iff.1 h2).1]; exact h2, r⟩
theorem Rw.ow {w : World} {g : Nat} {xs : List Nat} (h : Rw w g xs) (hl : xs.length ≤ 1048577) : Ow w g (.slice (some ⟨g, 0, none⟩) xs.length xs.length) xs := by
  unfold Rw at h
  exact ⟨by simp, .inr ⟨g, xs.length, _, rfl, Nat.le_refl _, h, Nat.le_refl _, by unfold maxLen; omega, by simp, by rw [Nat.mul_one]; exact List.take_of_length_le (by simp)⟩⟩
def Tw (w0 w : World) (v1 : Value) (ys1 : List Nat) (gx n : Nat) (xx : List Nat) (v2 : Value) (ys2 : List Nat) : Prop :=
  Below w0.heap.size w0 w ∧ w0.heap.size ≤ gx ∧ Ow w w0.heap.size v1 ys1 ∧ (∀ k, v1.ownBlock = some k → k < gx) ∧ Ow w gx (.slice (some ⟨gx, 0, none⟩) n n) xx ∧ Ow w (gx + 1) v2 ys2
section
variable {w0 w w' : World} {v1 v2 : Value} {ys1 ys2 xx : List Nat} {gx n : Nat}
theorem Tw.base (h : Tw w0 w v1 ys1 gx n xx v2 ys2) : Below w0.heap.size w0 w := h.1
theorem Tw.o1 (h : Tw w0 w v1 ys1 gx n xx v2 ys2) : Ow w w0.heap.size v1 ys1 := h.2.2.1
theorem Tw.ox (h : Tw w0 w v1 ys1 gx n xx v2 ys2) : Ow w gx (.slice (some ⟨gx, 0, none⟩) n n) xx := h.2.2.2.2.1
theorem Tw.o2 (h : Tw w0 w v1 ys1 gx n xx v2 ys2) : Ow w (gx + 1) v2 ys2 := h.2.2.2.2.2
theorem Tw.drewN (h : Tw w0 w v1 ys1 gx n xx v2 ys2) (m : Nat) : Tw w0 (w.drewN m) v1 ys1 gx n xx v2 ys2 := ⟨below_drewN' h.1 m, h.2.1, h.2.2.1.drewN m, h.2.2.2.1, h.2.2.2.2.1.drewN m, h.2.2.2.2.2.drewN m⟩
theorem Tw.later (h : Tw w0 w v1 ys1 gx n xx v2 ys2) (hB : Below w.heap.size w w') : Tw w0 w' v1 ys1 gx n xx v2 ys2 :=
  ⟨h.1.trans (hB.mono h.1.size), h.2.1, h.2.2.1.later hB, h.2.2.2.1, h.2.2.2.2.1.later hB, h.2.2.2.2.2.later hB⟩
theorem Tw.markX (h : Tw w0 w v1 ys1 gx n xx v2 ys2) {zs : List Nat} (hO : Ow w' gx (.slice (some ⟨gx, 0, none⟩) n n) zs) (hG : w.grownBy w' (some gx)) : Tw w0 w' v1 ys1 gx n zs v2 ys2 :=
  ⟨h.1.grown hG h.1.size (fun k hk => by injection hk with hk; have := h.2.1; omega), h.2.1, h.2.2.1.kept hG (.inr fun q => by have := h.2.2.2.1 gx q; omega), h.2.2.2.1, hO,
    h.2.2.2.2.2.kept hG (.inr fun q => by have := (h.2.2.2.2.2.lt q).1; omega)⟩
theorem Tw.mark2 (h : Tw w0 w v1 ys1 gx n xx v2 ys2) {zs : List Nat} (hO : Ow w' (gx + 1) v2 zs) (hG : w.grownBy w' v2.ownBlock) : Tw w0 w' v1 ys1 gx n xx v2 zs := by
  have hb : ∀ k, v2.ownBlock = some k → gx + 1 ≤ k := fun k hk => (h.2.2.2.2.2.lt hk).1
  refine ⟨h.1.grown hG h.1.size (fun k hk => by have := hb k hk; have := h.2.1; omega), h.2.1, h.2.2.1.kept hG ?_, h.2.2.2.1, h.2.2.2.2.1.kept hG (.inr fun q => ?_), hO⟩
  · cases e : v1.ownBlock with
    | none => exact .inl rfl
    | some k =>
      refine .inr fun q => ?_
      have h1 := h.2.2.2.1 k e
      have h2 := hb k q.symm
      omega
  · have := hb gx (q.symm.trans rfl); omega
end

theorem Fs.ofOw {w : World} {b : Nat} {a : Option Addr} {n c : Nat} {xs : List Nat} (h : Ow w b (.slice a n c) xs) : Fs w a xs := Ow.Fs' h

set_option maxHeartbeats 4000000 in
theorem law_StateOf (a : Option Addr) (c : Nat) (xs : List Nat) (be en : Nat) (R : Int) (w : World) (hs : Fs w a xs) (hw : ∀ j, j < xs.length → xs.getD j 0 < 4294967296) (hm : xs.length ≤ maxLen) (hb : be < 4294967296) (he : en < 4294967296) :
    Calls Try.prog 10 #[.slice a xs.length c, .float .f32 be, .float .f32 en, .int .i64 R] w (RetVB (.bool true) w) := by
  unfold maxLen at hm
  by_cases hl : xs.length ≤ 1048576
  · obtain ⟨ys, b, hS, hI, hly, hyw⟩ := states xs be en R hb he (by omega)
    have HS := Lib.hid hS
    have HI := Lib.hid hI
    have HA := Lib.hid hs
    have HW := Lib.hid hw
    have HY := Lib.hid hyw
    clear hS hI hs hw hyw
    have hbb : (b != b) = false := by cases b <;> rfl
    go_enter Try.func10, Try.ntmps10
    go_wp2_with fail
    refine (laws_toFloat32S a c xs _ HA.out hl).mono ?_
    rintro _ w1 ⟨g1, rfl, hg1, hR1, hB1⟩
    have H1 := Lib.hid (And.intro hR1 hB1)
    clear hR1 hB1
    go_wp2_with fail
    refine (HS.out _ _ _ H1.out.1.Fs).mono ?_
    rintro _ w2 ⟨v1, rfl, hO1, hB2⟩
    have H2 := Lib.hid (And.intro (hO1.base (b' := w.heap.size) (fun k hk => Nat.le_trans H1.out.2.size (hO1.lt hk).1)) (H1.out.2.trans (hB2.mono H1.out.2.size)))
    clear hO1 hB2
    go_wp2_with fail
    refine (laws_toFloat32S a c xs _ (HA.out.below H2.out.2) hl).mono ?_
    rintro _ w3 ⟨gx, rfl, hgx, hR3, hB3⟩
    have H3 := Lib.hid (And.intro hR3 (And.intro (H2.out.1.later hB3) (H2.out.2.trans (hB3.mono H2.out.2.size))))
    have HG := Lib.hid (show ∀ k, v1.ownBlock = some k → k < gx from fun k hk => Nat.lt_of_lt_of_le (H2.out.1.lt hk).2 hgx)
    have HZ := Lib.hid (Nat.le_trans H2.out.2.size hgx)
    clear hR3 hB3 hgx hg1
    go_wp2_with fail
    refine (HI.out _ _ _ H3.out.1.Fs).mono ?_
    rintro _ w4 ⟨v2, rfl, hO2, hB4⟩
    have T := Lib.hid (show Tw w w4 v1 ys gx xs.length xs v2 ys from ⟨H3.out.2.2.trans (hB4.mono H3.out.2.2.size), HZ.out, H3.out.2.1.later hB4, HG.out, (H3.out.1.ow (by omega)).later hB4, hO2.base (fun k hk => by have h1 := (hO2.lt hk).1; have h2 := H3.out.1.lt; omega)⟩)
    clear hO2 hB4 H1 H2 H3 HG HZ
    obtain ⟨a1, c1, e1, _, _⟩ := T.out.o1.Fs
    obtain ⟨a2, c2, e2, _, _⟩ := T.out.o2.Fs
    subst e1
    subst e2
    go_wp2_with fail
    refine (laws_eqFloat32S a2 a1 c2 c1 ys ys _ (Fs.ofOw T.out.o2) (Fs.ofOw T.out.o1) (by omega) rfl HY.out (fun _ _ => rfl)).mono ?_
    rintro _ _ ⟨n1, rfl, rfl⟩
    go_wp2_with fail
    refine (laws_toFloat32S a c xs _ (HA.out.below (T.out.drewN n1).base) hl).mono ?_
    rintro _ w6 ⟨gy, rfl, _, hR6, hB6⟩
    have T6 := Lib.hid ((T.out.drewN n1).later hB6)
    have R6 := Lib.hid hR6
    clear hB6 hR6 T
    go_wp2_with fail
    refine (laws_eqFloat32S _ _ _ _ xs xs _ (Fs.ofOw T6.out.ox) R6.out.Fs (by omega) rfl HW.out (fun _ _ => rfl)).mono ?_
    rintro _ _ ⟨n2, rfl, rfl⟩
    go_wp2_with fail
    refine (laws_mark2 gx (some ⟨gx, 0, none⟩) xs.length 1 xs _ (T6.out.drewN n2).ox (by omega) (by omega) hl).mono ?_
    rintro _ w7 ⟨rfl, hO7, hG7⟩
    have T7 := Lib.hid ((T6.out.drewN n2).markX hO7 hG7)
    clear hO7 hG7 T6
    go_wp2_with fail
    refine (laws_eqFloat32S a2 a1 c2 c1 ys ys _ (Fs.ofOw T7.out.o2) (Fs.ofOw T7.out.o1) (by omega) rfl HY.out (fun _ _ => rfl)).mono ?_
    rintro _ _ ⟨n3, rfl, rfl⟩
    go_wp2_with fail
    refine (laws_mark2 (gx + 1) a2 c2 1 ys _ (T7.out.drewN n3).o2 (by omega) (by omega) (by omega)).mono ?_
    rintro _ w8 ⟨rfl, hO8, hG8⟩
    have T8 := Lib.hid ((T7.out.drewN n3).mark2 hO8 hG8)
    clear hO8 hG8 T7
    go_wp2_with fail
    refine (laws_heldFloat32S a2 c2 1 ys.length _ (Fs.ofOw T8.out.o2) (by omega) (by omega) (by omega)).mono ?_
    rintro _ _ ⟨n4, rfl, rfl⟩
    go_wp2_with fail
    refine (laws_toFloat32S a c xs _ (HA.out.below (T8.out.drewN n4).base) hl).mono ?_
    rintro _ w9 ⟨gz, rfl, _, hR9, hB9⟩
    have T9 := Lib.hid ((T8.out.drewN n4).later hB9)
    have R9 := Lib.hid hR9
    clear hB9 hR9 T8
    go_wp2_with fail
    refine (HI.out _ _ _ R9.out.Fs).mono ?_
    rintro _ w10 ⟨v3, rfl, hO10, hB10⟩
    have T10 := Lib.hid (T9.out.later hB10)
    obtain ⟨a3, c3, e3, hF3, _⟩ := hO10.Fs
    subst e3
    have F3 := Lib.hid hF3
    clear hF3 hO10 hB10 T9
    go_wp2_with fail
    refine (laws_eqFloat32S a3 a1 c3 c1 ys ys _ F3.out (Fs.ofOw T10.out.o1) (by omega) rfl HY.out (fun _ _ => rfl)).mono ?_
    rintro _ _ ⟨n5, rfl, rfl⟩
    go_wp2_with fail
    refine (laws_heldFloat32S a2 c2 1 ys.length _ (Fs.ofOw (T10.out.drewN n5).o2) (by omega) (by omega) (by omega)).mono ?_
    rintro _ _ ⟨n6, rfl, rfl⟩
    go_wp2
    go_ret
    exact ⟨rfl, below_drewN' T10.out.base _⟩
  · go_enter Try.func10, Try.ntmps10
    go_wp2
    go_ret
    exact ⟨rfl, Below.refl _ _⟩
end Go.Proofs.Ytidnhbengmjpkaa
