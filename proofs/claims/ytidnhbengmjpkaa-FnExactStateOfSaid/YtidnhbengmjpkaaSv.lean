/- StateOf of the reference. -/
import Derived.Test.YtidnhbengmjpkaaSt
namespace Go.Proofs.Ytidnhbengmjpkaa
set_option maxRecDepth 100000
set_option linter.unusedVariables false
open Go.RowKit

set_option maxHeartbeats 400000 in
theorem spec_l02Middle (x : Nat) (hx : x < 4294967296) (w : World) : Calls Try.prog 53 #[.float .f32 x] w (RetF .f32 (nzC (cn .f32 x)) w) := by
  have hl := eq_is (r := x) (c := cn .f32 x) ⟨rfl, by rw [f32_sign]; omega⟩
  cases h : eqC (cn .f32 x) with
  | true =>
    rw [h] at hl
    have H := Lib.hid (nz_true h)
    clear h
    go_enter Try.func53, Try.ntmps53
    go_wp2
    go_ret
    exact RetF.mk0 (tiny_FE.cast H.out.symm)
  | false =>
    rw [h] at hl
    have H := Lib.hid (nz_false h)
    clear h
    go_enter Try.func53, Try.ntmps53
    go_wp2
    go_ret
    exact RetF.mk0 ⟨H.out.symm, by rw [f32_sign]; omega⟩

/-- the slices of a round of the reference: the state, the right sides, the middles so far -/
def StC (w wx : World) (gs cs gr cr n : Nat) (v : Value) (k : Nat) (fm fr fs : Nat → Option Nat) : Prop :=
  ∃ ms : List Nat, ms.length = k ∧ Ow wx w.heap.size v ms ∧ (∀ j, j < k → FE .f32 (ms.getD j 0) (fm j)) ∧ v.ownBlock ≠ some gs ∧ v.ownBlock ≠ some gr ∧ gs ≠ gr ∧ w.heap.size ≤ gs ∧ w.heap.size ≤ gr ∧
    Rg wx gr n cr fr ∧ Rg wx gs n cs fs ∧ Below w.heap.size w wx
section
variable {w wx : World} {gs cs gr cr n k : Nat} {v : Value} {fm fr fs : Nat → Option Nat} {j x : Nat} {c : Option Nat}
theorem StC.below (h : StC w wx gs cs gr cr n v k fm fr fs) : Below w.heap.size w wx := by obtain ⟨_, _, _, _, _, _, _, _, _, _, _, hB⟩ := h; exact hB
theorem StC.drewN (h : StC w wx gs cs gr cr n v k fm fr fs) (m : Nat) : StC w (wx.drewN m) gs cs gr cr n v k fm fr fs := by
  obtain ⟨ms, h1, h2, h3, h4, h5, h6, h7, h8, h9, h10, hB⟩ := h
  exact ⟨ms, h1, h2.drewN m, h3, h4, h5, h6, h7, h8, h9.drewN m, h10.drewN m, below_drewN' hB m⟩
theorem StC.atR (h : StC w wx gs cs gr cr n v k fm fr fs) (hj : j < n) : ∃ x, wx.cell? ⟨gr, j, none⟩ = some (.float .f32 x) ∧ FE .f32 x (fr j) ∧ wx.frozen? ⟨gr, j, none⟩ = false := by
  obtain ⟨_, _, _, _, _, _, _, _, _, h9, _⟩ := h
  exact h9.at hj
theorem StC.atS (h : StC w wx gs cs gr cr n v k fm fr fs) (hj : j < n) : ∃ x, wx.cell? ⟨gs, j, none⟩ = some (.float .f32 x) ∧ FE .f32 x (fs j) ∧ wx.frozen? ⟨gs, j, none⟩ = false := by
  obtain ⟨_, _, _, _, _, _, _, _, _, _, h10, _⟩ := h
  exact h10.at hj
/-- the middles, where there is one -/
theorem StC.form (h : StC w wx gs cs gr cr n v k fm fr fs) (hk : 0 < k) : ∃ gm cm, v = .slice (some ⟨gm, 0, none⟩) k cm ∧ ∀ j, j < k → ∃ x, wx.cell? ⟨gm, j, none⟩ = some (.float .f32 x) ∧ FE .f32 x (fm j) := by
  obtain ⟨ms, rfl, h2, h3, _⟩ := h
  obtain ⟨a, cap, e, hF, hg⟩ := h2.Fs
  obtain ⟨gm, rfl, _⟩ := hg (by intro q; rw [q] at hk; simp at hk)
  refine ⟨gm, cap, e, fun j hj => ?_⟩
  obtain ⟨b, off, e2, _, hc⟩ := hF.at hj
  cases e2
  have := hc j hj
  rw [Nat.zero_add] at this
  exact ⟨_, this, h3 j hj⟩
theorem StC.setR (h : StC w wx gs cs gr cr n v k fm fr fs) (hj : j < n) (hx : FE .f32 x c) : StC w (wx.setCell ⟨gr, j, none⟩ (.float .f32 x)) gs cs gr cr n v k fm (put fr j c) fs := by
  obtain ⟨ms, h1, h2, h3, h4, h5, h6, h7, h8, h9, h10, hB⟩ := h
  exact ⟨ms, h1, h2.kept (grownBy_set wx gr j _) (.inr h5), h3, h4, h5, h6, h7, h8, h9.set hj hx, h10.other (fun q => h6 q.symm) _ _, hB.setCell h8 _⟩
theorem StC.setS (h : StC w wx gs cs gr cr n v k fm fr fs) (hj : j < n) (hx : FE .f32 x c) : StC w (wx.setCell ⟨gs, j, none⟩ (.float .f32 x)) gs cs gr cr n v k fm fr (put fs j c) := by
  obtain ⟨ms, h1, h2, h3, h4, h5, h6, h7, h8, h9, h10, hB⟩ := h
  exact ⟨ms, h1, h2.kept (grownBy_set wx gs j _) (.inr h4), h3, h4, h5, h6, h7, h8, h9.other h6 _ _, h10.set hj hx, hB.setCell h7 _⟩
theorem StC.congr (h : StC w wx gs cs gr cr n v k fm fr fs) {fm' fr' fs' : Nat → Option Nat} (e1 : ∀ j, j < k → fm j = fm' j) (e2 : ∀ j, j < n → fr j = fr' j) (e3 : ∀ j, j < n → fs j = fs' j) : StC w wx gs cs gr cr n v k fm' fr' fs' := by
  obtain ⟨ms, h1, h2, h3, h4, h5, h6, h7, h8, h9, h10, hB⟩ := h
  exact ⟨ms, h1, h2, fun j hj => e1 j hj ▸ h3 j hj, h4, h5, h6, h7, h8, h9.congr e2, h10.congr e3, hB⟩
/-- a middle more -/
theorem StC.push (h : StC w wx gs cs gr cr n v k fm fr fs) (hk : k ≤ 48) (hx : FE .f32 x (fm k)) :
    ∃ v' w', (Builtin.append_ #[22, 22] 22 #[v, .slice (some ⟨wx.heap.size, 0, none⟩) 1 1]).run Try.prog (wx.alloc (.cells #[.float .f32 x] 23)) = .ok v' w' ∧ StC w w' gs cs gr cr n v' (k + 1) fm fr fs := by
  obtain ⟨ms, h1, h2, h3, h4, h5, h6, h7, h8, h9, h10, hB⟩ := h
  have hsz := hB.size
  have hF : Fs (wx.alloc (.cells #[.float .f32 x] 23)) (some ⟨wx.heap.size, 0, none⟩) [x] := Fs_one' wx x _
  obtain ⟨v', w', hr, hO, hG, hW⟩ := run_app_src (wx.alloc (.cells #[.float .f32 x] 23)) w.heap.size v ms [x] (some ⟨wx.heap.size, 0, none⟩) 1 (h2.alloc _) hF (fun q => by cases q) (by simp; omega) (by simp; omega) 22
  refine ⟨v', w', hr, ms ++ [x], by simp [h1], hO, fun j hj => ?_, ?_, ?_, h6, h7, h8, (h9.alloc _).kept hG h5, (h10.alloc _).kept hG h4, (hB.alloc hsz _).grown hG (by simp; omega) (fun i q => (h2.lt q).1)⟩
  · by_cases e : j < k
    · rw [List.getD_eq_getElem?_getD, List.getElem?_append_left (by omega), ← List.getD_eq_getElem?_getD]
      exact h3 j e
    · obtain rfl : j = k := by omega
      rw [List.getD_eq_getElem?_getD, List.getElem?_append_right (by omega), h1, Nat.sub_self]
      exact hx
  · rcases hW with e | e
    · rw [e]; exact h4
    · rw [e]
      have := h10.lt
      simp; omega
  · rcases hW with e | e
    · rw [e]; exact h5
    · rw [e]
      have := h9.lt
      simp; omega
end

theorem StC.atM {w wx : World} {gs cs gr cr gm cm n : Nat} {fm fr fs : Nat → Option Nat} (h : StC w wx gs cs gr cr n (.slice (some ⟨gm, 0, none⟩) n cm) n fm fr fs) {j : Nat} (hj : j < n) : ∃ x, wx.cell? ⟨gm, j, none⟩ = some (.float .f32 x) ∧ FE .f32 x (fm j) := by
  obtain ⟨g, c, e, hc⟩ := h.form (by omega)
  cases e
  exact hc j hj
theorem below2' (w : World) (a b : Obj) : Below w.heap.size w ((w.alloc a).alloc b) := ((Below.refl _ _).alloc (Nat.le_refl _) _).alloc (by simp) _
theorem st_ones {w wr : World} {v : Value} {xs : List Nat} {be en : Nat} (h : Ow wr w.heap.size v (List.replicate xs.length 1065353216)) (h1 : 1 ≤ xs.length) : ∃ gs cs, v = .slice (some ⟨gs, 0, none⟩) xs.length cs ∧ Rg wr gs xs.length cs (stF xs (cn .f32 be) (cn .f32 en) 0) ∧ w.heap.size ≤ gs := by
  obtain ⟨a, cap, e, _, hg⟩ := h.Fs
  obtain ⟨g, rfl, hle⟩ := hg (by intro q; have := congrArg List.length q; rw [List.length_replicate, List.length_nil] at this; omega)
  rw [List.length_replicate] at e
  subst e
  refine ⟨g, cap, rfl, ⟨List.replicate xs.length 1065353216, by simp, h.base (fun k hk => by simp [Value.ownBlock] at hk; omega), fun j hj => ?_⟩, hle⟩
  have : (List.replicate xs.length 1065353216).getD j 0 = 1065353216 := by simp [List.getD_eq_getElem?_getD, hj]
  rw [this]
  exact one_FE
/-- where a round of the reference begins -/
theorem st_begin {w wr : World} {gs cs n : Nat} {f fm : Nat → Option Nat} (h0 : 0 < n) (hn : n ≤ 48) (hG : Rg wr gs n cs f) (hgs : w.heap.size ≤ gs) (hB : Below w.heap.size w wr) :
    ∃ gr cr w', (Builtin.append_ #[22, 22] 22 #[.slice (some ⟨wr.heap.size + 1, 0, none⟩) 0 0, .slice (some ⟨gs, 0, none⟩) n cs]).run Try.prog ((wr.alloc (.cells #[] 23)).alloc (.cells #[] 23)) = .ok (.slice (some ⟨gr, 0, none⟩) n cr) w' ∧
      StC w w' gs cs gr cr n (.slice (some ⟨wr.heap.size, 0, none⟩) 0 0) 0 fm f f := by
  have hlt := hG.lt
  have hsz := hB.size
  obtain ⟨ys, rfl, hO, hF⟩ := hG
  have hFs := Ow.Fs' hO
  have E2 : Ow ((wr.alloc (.cells #[] 23)).alloc (.cells #[] 23)) w.heap.size (.slice (some ⟨wr.heap.size + 1, 0, none⟩) 0 0) [] := Ow_empty2 _ _ _ (by simp; omega) (by simp)
  have hFs2 : Fs ((wr.alloc (.cells #[] 23)).alloc (.cells #[] 23)) (some ⟨gs, 0, none⟩) ys := hFs.below (below2' wr _ _)
  obtain ⟨v', w', hr, hO', hGr, hW⟩ := run_app_src ((wr.alloc (.cells #[] 23)).alloc (.cells #[] 23)) w.heap.size (.slice (some ⟨wr.heap.size + 1, 0, none⟩) 0 0) [] ys (some ⟨gs, 0, none⟩) cs E2 hFs2 (fun q => by rw [q] at h0; simp at h0) (by simp; omega) (by simp; omega) 22
  obtain ⟨a2, cap2, e, _, hg⟩ := hO'.Fs
  obtain ⟨gr, rfl, hgr⟩ := hg (by intro q; simp at q; rw [q] at h0; simp at h0)
  simp only [List.nil_append] at e hO'
  subst e
  have hgr2 : gr = wr.heap.size + 1 ∨ gr = wr.heap.size + 1 + 1 := by
    rcases hW with q | q
    · left; simpa [Value.ownBlock] using q
    · right; simpa [Value.ownBlock] using q
  have hne : some (wr.heap.size + 1) ≠ some gs := by intro q; injection q with q; omega
  refine ⟨gr, cap2, w', hr, [], rfl, ?_, fun j hj => by omega, ?_, ?_, by omega, hgs, hgr, ?_, ?_, ?_⟩
  · exact ((Ow_empty wr w.heap.size hsz).alloc _).kept hGr (.inr (by simp [Value.ownBlock]))
  · simp [Value.ownBlock]; omega
  · simp [Value.ownBlock]; omega
  · exact ⟨ys, rfl, hO'.base (fun k hk => by simp [Value.ownBlock] at hk; omega), hF⟩
  · exact ⟨ys, rfl, ((hO.alloc _).alloc _).kept hGr (.inr (by simp [Value.ownBlock]; omega)), hF⟩
  · exact ((hB.alloc hsz _).alloc (by simp; omega) _).grown hGr (by simp; omega) (fun k hk => by simp [Value.ownBlock] at hk; omega)

set_option maxHeartbeats 8000000 in
theorem spec_StateOf_good (a : Option Addr) (c : Nat) (xs : List Nat) (be en : Nat) (R : Nat) (w : World) (hs : Fs w a xs) (h1 : 1 ≤ xs.length) (h48 : xs.length ≤ 48) (hb : be < 4294967296) (he : en < 4294967296) (hB : rwB xs (cn .f32 be) = true) (hE : isFin (cn .f32 en) = true) (hR1 : 1 ≤ R) (hR8 : R ≤ 8) :
    Calls Try.prog 30 #[.slice a xs.length c, .float .f32 be, .float .f32 en, .int .i64 R] w (RetCn (stL xs (cn .f32 be) (cn .f32 en) R) w) := by
  have HS := Lib.hid hs
  have HB := Lib.hid (And.intro hB hE)
  have HW := Lib.hid (show (decide ((1 : Int) ≤ (R : Int)) && decide ((R : Int) ≤ 8)) = true by simp; omega)
  clear hs hB hE
  go_enter Try.func30, Try.ntmps30
  go_wp2_with fail
  refine (spec_l02Rows a c xs be _ HS.out (by omega)).mono ?_
  rw [HB.out.1]
  rintro _ _ ⟨n1, rfl, rfl⟩
  go_wp2_with fail
  refine (spec_l01Finite en _).mono ?_
  rw [HB.out.2]
  rintro _ _ ⟨n2, rfl, rfl⟩
  go_wp2_with fail
  refine (spec_l00In _ _ _ _).mono ?_
  rw [HW.out]
  rintro _ _ ⟨n3, rfl, rfl⟩
  go_wp2
  go_loopw [11, 12] (fun v i wr => ∃ k : Nat, k ≤ xs.length ∧ i = .int .i64 k ∧ Hid (Ow wr w.heap.size v (List.replicate k 1065353216)) ∧ Hid (Below w.heap.size w wr)) (fun _ i _ => xs.length - (intOf i).toNat)
  case atStart =>
    have hd := below_drewN' (Below.refl w.heap.size w) (n1 + n2 + n3)
    exact ⟨0, by omega, rfl, Ow_empty (w.drewN (n1 + n2 + n3)) w.heap.size (Nat.le_refl _), hd.alloc hd.size _⟩
  case round =>
    obtain ⟨k, hk, rfl, hO, hB⟩ := hrel
    by_cases hlt : k < xs.length
    · have hsz := hB.out.size
      obtain ⟨v2, w2, hrun, hO2, hG⟩ := run_app32 (wr.alloc (.cells #[.float .f32 1065353216] 23)) w.heap.size u11 (List.replicate k 1065353216) 1065353216 wr.heap.size (hO.out.alloc _) (by simp [World.cell?_alloc_new]) (by simp; omega) (by simp; omega) 22
      have HA := Lib.hid (And.intro hO2 hG)
      clear hO2 hG
      have hki : (k : Int) < (xs.length : Int) := by omega
      go_wp2_with (at_builtin; refine Lib.wpList_append_run _ rfl (.tmp 46) (.tmp 47) 22 22 rfl _ _ rfl rfl _ _ hrun ?_)
      go_roundw
      case rel => exact ⟨k + 1, by omega, by go_num, Lib.hid (by rw [List.replicate_succ']; exact HA.out.1), (hB.out.alloc hsz _).grown HA.out.2 (by simp; omega) (fun j q => (hO.out.lt q).1)⟩
      case measure => simp [intOf]; omega
    · obtain rfl : k = xs.length := by omega
      obtain ⟨gs, cs, hv, hG, hgs⟩ := st_ones (be := be) (en := en) hO.out h1
      have G := Lib.hid hG
      rw [hv]
      clear hv hO hG
      go_wp2
      go_loopw [3] (fun i wr => ∃ r : Nat, r ≤ R ∧ i = .int .i64 ((R : Int) - r) ∧ Hid (Rg wr gs xs.length cs (stF xs (cn .f32 be) (cn .f32 en) r)) ∧ Hid (Below w.heap.size w wr)) (fun i _ => (intOf i).toNat)
      case atStart => exact ⟨0, by omega, vint (by omega), G, hB⟩
      case round =>
        obtain ⟨r, hr, rfl, hG, hB⟩ := hrel
        by_cases hlt : r < R
        · have hli : (0 : Int) < (R : Int) - (r : Int) := by omega
          obtain ⟨gr, cr, w4, hrun, hA⟩ := st_begin (fm := (stM xs (cn .f32 be) (cn .f32 en))) h1 h48 hG.out hgs hB.out
          have HA := Lib.hid hA
          clear hA hG hB
          generalize hs : stF xs (cn .f32 be) (cn .f32 en) r = s at HA
          have HF := Lib.hid hs
          clear hs
          go_wp2_with (at_builtin; refine Lib.wpList_append_run _ rfl (.tmp 54) (.tmp 55) 22 22 rfl _ _ rfl rfl _ _ hrun ?_)
          clear hrun
          go_loopw [13, 15, 16, 17] (fun mv i xv qv wr => ∃ k : Nat, k ≤ xs.length ∧ i = .int .i64 k ∧ Hid (StC w wr gs cs gr cr xs.length mv k (stM xs (cn .f32 be) (cn .f32 en)) (upto k (stR xs (cn .f32 be) (cn .f32 en) s) s) s)) (fun _ i _ _ _ => xs.length - (intOf i).toNat)
          case atStart => exact ⟨0, by omega, rfl, HA.out.congr (fun _ _ => rfl) (fun j _ => by rw [upto_no (Nat.zero_le j)]) (fun _ _ => rfl)⟩
          case round =>
            obtain ⟨k, hk, rfl, hA⟩ := hrel
            by_cases hlt : k < xs.length
            · obtain ⟨b1, off1, rfl, _, hc1⟩ := (HS.out.below hA.out.below).at hlt
              have r1 := hc1 k hlt
              clear hc1
              obtain ⟨y, hy⟩ : ∃ y, y = xs.getD k 0 := ⟨_, rfl⟩
              rw [← hy] at r1
              have Y := Lib.hid hy
              clear hy
              have hki : (k : Int) < (xs.length : Int) := by omega
              by_cases h0 : k = 0
              · have H0 := Lib.hid h0
                have h0' : ¬ (0 : Int) < (k : Int) := by omega
                clear h0
                go_wp2
                with_reducible refine up_sub _ _ _ _ _ ?_
                intro e1 ne1 he1
                go_wp2
                with_reducible refine up_sub _ _ _ _ _ ?_
                intro x nx hx
                have X := Lib.hid (show FE .f32 x (cop .sub .f32 (cn .f32 (xs.getD k 0)) (stE (cn .f32 en))) from hx.cast (by rw [he1.out, Y.out]; rfl))
                clear he1 hx
                go_wp2_with fail
                refine (spec_l02Middle x X.out.word _).mono ?_
                rintro _ _ ⟨q2, n2, rfl, hq2, rfl⟩
                have HQ := Lib.hid (show FE .f32 q2 ((stM xs (cn .f32 be) (cn .f32 en)) k) from hq2.cast (by rw [X.out.out, H0.out]; rfl))
                clear hq2
                generalize hW : World.drewN _ n2 = W2
                have A2 := Lib.hid (show StC w W2 gs cs gr cr xs.length u13 k (stM xs (cn .f32 be) (cn .f32 en)) (upto k (stR xs (cn .f32 be) (cn .f32 en) s) s) s by rw [← hW]; exact (hA.out.drewN _).drewN _)
                clear hW hA r1
                obtain ⟨v5, w5, hrun, hA5⟩ := A2.out.push (by omega) HQ.out
                have A5 := Lib.hid hA5
                clear hA5 A2
                go_wp2_with (at_builtin; refine Lib.wpList_append_run _ rfl (.tmp 98) (.tmp 101) 22 22 rfl _ _ rfl rfl _ _ hrun ?_)
                go_roundw
                case rel => exact ⟨k + 1, by omega, by go_num, A5.out.congr (fun _ _ => rfl) (fun j hj => st_right0 H0.out j) (fun _ _ => rfl)⟩
                case measure => simp [intOf]; omega
              · have H0 := Lib.hid h0
                have h0' : (0 : Int) < (k : Int) := by omega
                have h0n : 0 < k := by omega
                clear h0
                obtain ⟨gm, cm, hv, hc⟩ := hA.out.form h0n
                obtain ⟨m2, d2, M2⟩ := hc (k - 1) (by omega)
                have HM2 := Lib.hid M2
                have hA0 := Lib.hid (show StC w wr gs cs gr cr xs.length (.slice (some ⟨gm, 0, none⟩) k cm) k (stM xs (cn .f32 be) (cn .f32 en)) (upto k (stR xs (cn .f32 be) (cn .f32 en) s) s) s by rw [← hv]; exact hA.out)
                rw [hv]
                clear hv hc M2 hA
                go_wp2
                with_reducible refine up_sub _ _ _ _ _ ?_
                intro e1 ne1 he1
                go_wp2
                with_reducible refine up_sub _ _ _ _ _ ?_
                intro x nx hx
                have X := Lib.hid (show FE .f32 x (cop .sub .f32 (cn .f32 (xs.getD k 0)) (stE (cn .f32 en))) from hx.cast (by rw [he1.out, Y.out]; rfl))
                clear he1 hx
                go_wp2
                with_reducible refine up_quo _ _ _ _ _ ?_
                intro q nq hq
                have HQ := Lib.hid (show FE .f32 q (cop .quo .f32 (cn .f32 be) ((stM xs (cn .f32 be) (cn .f32 en)) (k - 1))) from hq.cast (by rw [HM2.out.out]))
                clear hq
                go_wp2
                with_reducible refine up_mul _ _ _ _ _ ?_
                intro p np hp
                go_wp2
                with_reducible refine up_sub _ _ _ _ _ ?_
                intro y3 ny hy
                have HY := Lib.hid (show FE .f32 y3 (cop .sub .f32 (cop .sub .f32 (cn .f32 (xs.getD k 0)) (stE (cn .f32 en))) (cop .mul .f32 (cop .quo .f32 (cn .f32 be) ((stM xs (cn .f32 be) (cn .f32 en)) (k - 1))) (cn .f32 be))) from hy.cast (by rw [hp.out, X.out.out, HQ.out.out]))
                clear hp hy
                go_upto_region 20 with fail
                generalize hW : World.drewN wr (ne1 + nx + nq + np + ny) = W3
                have A3 := Lib.hid (show StC w W3 gs cs gr cr xs.length (.slice (some ⟨gm, 0, none⟩) k cm) k (stM xs (cn .f32 be) (cn .f32 en)) (upto k (stR xs (cn .f32 be) (cn .f32 en) s) s) s by rw [← hW]; exact hA0.out.drewN _)
                clear hW hA0 d2 r1
                obtain ⟨rk, c3, R3, f3⟩ := A3.out.atR hlt
                obtain ⟨rj, d3, J3, _⟩ := A3.out.atR (j := k - 1) (by omega)
                have HR3 := Lib.hid (And.intro (R3.cast (upto_no (Nat.le_refl k))) (J3.cast (upto_all (by omega))))
                clear R3 J3
                have hst := fun (x n : Nat) => run_store32 (w := W3.drewN n) x c3 f3
                have hst2 := fun (x n : Nat) => run_store32 (w := W3.drew.drewN n) x c3 f3
                clear f3
                have hmul := fun t w => run_flv .mul (by simp) t q rj w
                have hsub := fun t p w => run_flv .sub (by simp) t rk p w
                have s1 : (0 : Int) ≤ (k : Int) - 1 := by omega
                have s2 : (k : Int) - 1 < (xs.length : Int) := by omega
                have s3 : ((k : Int) - 1).toNat = k - 1 := by omega
                have s4 : IntKind.i64.wrap ((k : Int) - 1) = (k : Int) - 1 := IntWalk.i64_in _ (by omega)
                go_region_with (fail)
                all_goals
                  have HZ := Lib.hid (show FE .f32 (flv .sub rk (flv .mul q rj W3.drew) (W3.drewN (1 + fln .mul q rj))) (stR xs (cn .f32 be) (cn .f32 en) s k) from (FE_flv .sub rk (flv .mul q rj W3.drew) _).cast (by rw [(FE_flv .mul q rj W3.drew).out, HR3.out.1.out, HR3.out.2.out, HQ.out.out, ← st_rgt _ _ _ _ h0n]))
                  generalize hW : World.setCell (W3.drewN (1 + fln .mul q rj + fln .sub rk (flv .mul q rj W3.drew))) ⟨gr, k, none⟩ _ = W4
                  have A4 := Lib.hid (show StC w W4 gs cs gr cr xs.length (.slice (some ⟨gm, 0, none⟩) k cm) k (stM xs (cn .f32 be) (cn .f32 en)) _ s by rw [← hW]; exact (A3.out.drewN _).setR hlt HZ.out)
                  clear hW hst hst2 hmul hsub s1 s2 s3 s4 A3 HZ c3 d3
                  go_wp2_with fail
                  refine (spec_l02Middle y3 HY.out.word _).mono ?_
                  rintro _ _ ⟨q6, n6, rfl, hq6, rfl⟩
                  have HQ6 := Lib.hid (show FE .f32 q6 ((stM xs (cn .f32 be) (cn .f32 en)) k) from hq6.cast (by rw [HY.out.out, st_mid _ _ _ h0n]))
                  clear hq6
                  generalize hW : World.drewN W4 n6 = W5
                  have A5 := Lib.hid (show StC w W5 gs cs gr cr xs.length (.slice (some ⟨gm, 0, none⟩) k cm) k (stM xs (cn .f32 be) (cn .f32 en)) _ s by rw [← hW]; exact A4.out.drewN _)
                  clear hW A4
                  obtain ⟨v5, w5, hrun, hA6⟩ := A5.out.push (by omega) HQ6.out
                  have A6 := Lib.hid hA6
                  clear hA6 A5
                  go_wp2_with (at_builtin; refine Lib.wpList_append_run _ rfl (.tmp 98) (.tmp 101) 22 22 rfl _ _ rfl rfl _ _ hrun ?_)
                  go_roundw
                  case rel => exact ⟨k + 1, by omega, by go_num, A6.out.congr (fun _ _ => rfl) (fun j hj => by rw [upto_put rfl]) (fun _ _ => rfl)⟩
                  case measure => simp [intOf]; omega
            · obtain rfl : k = xs.length := by omega
              obtain ⟨gm, cm, hv, _⟩ := hA.out.form (by omega)
              have A := Lib.hid (show StC w wr gs cs gr cr xs.length (.slice (some ⟨gm, 0, none⟩) xs.length cm) xs.length (stM xs (cn .f32 be) (cn .f32 en)) (stR xs (cn .f32 be) (cn .f32 en) s) (upto xs.length s (stP xs (cn .f32 be) (cn .f32 en) s)) by rw [← hv]; exact hA.out.congr (fun j hj => rfl) (fun j hj => upto_all hj) (fun j hj => (upto_all hj).symm))
              rw [hv]
              clear hA hv
              go_wp2
              go_loopw [18, 20] (fun bh i wr => ∃ t b : Nat, t ≤ xs.length ∧ i = .int .i64 ((t : Int) - 1) ∧ bh = .float .f32 b ∧ Hid (FE .f32 b (stB xs (cn .f32 be) (cn .f32 en) s (xs.length - t))) ∧ Hid (StC w wr gs cs gr cr xs.length (.slice (some ⟨gm, 0, none⟩) xs.length cm) xs.length (stM xs (cn .f32 be) (cn .f32 en)) (stR xs (cn .f32 be) (cn .f32 en) s) (upto t s (stP xs (cn .f32 be) (cn .f32 en) s)))) (fun _ i _ => (intOf i + 1).toNat)
              case atStart => exact ⟨xs.length, 0, by omega, rfl, rfl, Lib.hid (by rw [Nat.sub_self]; exact ⟨cn_zero32, by decide⟩), A⟩
              case round =>
                obtain ⟨t, b, ht, rfl, rfl, hF, hA⟩ := hrel
                by_cases h0 : 0 < t
                · obtain ⟨rr, c3, R3, _⟩ := hA.out.atR (j := t - 1) (by omega)
                  obtain ⟨mm, d3, M3⟩ := hA.out.atM (j := t - 1) (by omega)
                  have HR3 := Lib.hid (And.intro R3 M3)
                  clear R3 M3
                  have hmul := fun ty w => run_flv .mul (by simp) ty be b w
                  have hsub := fun ty p w => run_flv .sub (by simp) ty rr p w
                  have hquo := fun ty p w => run_flv .quo (by simp) ty p mm w
                  have s1 : (0 : Int) ≤ (t : Int) - 1 := by omega
                  have s2 : (t : Int) - 1 < (xs.length : Int) := by omega
                  have s3 : ((t : Int) - 1).toNat = t - 1 := by omega
                  go_upto_region 27 with fail
                  go_region_with (fail)
                  all_goals
                    have HV := Lib.hid (show FE .f32 (flv .quo (flv .sub rr (flv .mul be b wr.drew) (wr.drewN (1 + fln .mul be b))) mm (wr.drewN (1 + fln .mul be b + fln .sub rr (flv .mul be b wr.drew)))) (stB xs (cn .f32 be) (cn .f32 en) s (xs.length - (t - 1))) from
                      (FE_flv .quo (flv .sub rr (flv .mul be b wr.drew) (wr.drewN (1 + fln .mul be b))) mm _).cast (by rw [(FE_flv .sub rr (flv .mul be b wr.drew) _).out, (FE_flv .mul be b wr.drew).out, HR3.out.1.out, HR3.out.2.out, hF.out.out, ← st_back _ _ _ _ h0 ht]))
                    generalize flv .quo (flv .sub rr (flv .mul be b wr.drew) (wr.drewN (1 + fln .mul be b))) mm (wr.drewN (1 + fln .mul be b + fln .sub rr (flv .mul be b wr.drew))) = v at HV ⊢
                    generalize hW : World.drewN wr (1 + fln .mul be b + fln .sub rr (flv .mul be b wr.drew) + fln .quo (flv .sub rr (flv .mul be b wr.drew) (wr.drewN (1 + fln .mul be b))) mm) = W2
                    have A2 := Lib.hid (show StC w W2 gs cs gr cr xs.length (.slice (some ⟨gm, 0, none⟩) xs.length cm) xs.length (stM xs (cn .f32 be) (cn .f32 en)) (stR xs (cn .f32 be) (cn .f32 en) s) (upto t s (stP xs (cn .f32 be) (cn .f32 en) s)) by rw [← hW]; exact hA.out.drewN _)
                    clear hW hmul hsub hquo c3 d3 HR3
                    obtain ⟨x5, c5, _, f5⟩ := A2.out.atS (j := t - 1) (by omega)
                    have hst := run_store32 v c5 f5
                    clear c5 f5
                    go_wp2
                    go_roundw
                    case rel => exact ⟨t - 1, v, by omega, vint (by omega), rfl, HV, (A2.out.setS (by omega) HV.out).congr (fun _ _ => rfl) (fun _ _ => rfl) (fun j hj => st_down h0 rfl j)⟩
                    case measure => simp [intOf]; omega
                · obtain rfl : t = 0 := by omega
                  rw [show ((0 : Nat) : Int) - 1 = -1 from rfl]
                  have A := Lib.hid (hA.out.congr (fs' := (stP xs (cn .f32 be) (cn .f32 en) s)) (fun _ _ => rfl) (fun _ _ => rfl) (fun j hj => upto_no (Nat.zero_le j)))
                  clear hA hF
                  go_wp2
                  go_loopw [19, 21] (fun sq i wr => ∃ k q : Nat, k ≤ xs.length ∧ i = .int .i64 k ∧ sq = .float .f32 q ∧ Hid (FE .f32 q (stQ xs (cn .f32 be) (cn .f32 en) s k)) ∧ Hid (StC w wr gs cs gr cr xs.length (.slice (some ⟨gm, 0, none⟩) xs.length cm) xs.length (stM xs (cn .f32 be) (cn .f32 en)) (stR xs (cn .f32 be) (cn .f32 en) s) (stP xs (cn .f32 be) (cn .f32 en) s))) (fun _ i _ => xs.length - (intOf i).toNat)
                  case atStart => exact ⟨0, 0, by omega, rfl, rfl, ⟨cn_zero32, by decide⟩, A⟩
                  case round =>
                    obtain ⟨k, q, hk, rfl, rfl, hF, hA⟩ := hrel
                    by_cases hlt : k < xs.length
                    · obtain ⟨x3, c3, X3, _⟩ := hA.out.atS hlt
                      have HX3 := Lib.hid X3
                      clear X3
                      have hki : (k : Int) < (xs.length : Int) := by omega
                      have hk0 : (0 : Int) ≤ (k : Int) := by omega
                      have hmul := fun ty w => run_flv .mul (by simp) ty x3 x3 w
                      have hadd := fun ty p w => run_flv .add (by simp) ty q p w
                      go_upto_region 32 with fail
                      go_region_with (fail)
                      all_goals
                        have HQ := Lib.hid (show FE .f32 (flv .add q (flv .mul x3 x3 wr.drew) (wr.drewN (1 + fln .mul x3 x3))) (stQ xs (cn .f32 be) (cn .f32 en) s (k + 1)) from (FE_flv .add q (flv .mul x3 x3 wr.drew) _).cast (by rw [(FE_flv .mul x3 x3 wr.drew).out, HX3.out.out, hF.out.out]; rfl))
                        generalize flv .add q (flv .mul x3 x3 wr.drew) (wr.drewN (1 + fln .mul x3 x3)) = v at HQ ⊢
                        clear hmul hadd c3
                        go_wp2
                        go_roundw
                        case rel => exact ⟨k + 1, v, by omega, by go_num, rfl, HQ, hA.out.drewN _⟩
                        case measure => simp [intOf]; omega
                    · obtain rfl : k = xs.length := by omega
                      go_wp2_with fail
                      refine (spec_l01Sqrt q hF.out.word _).mono ?_
                      rintro _ _ ⟨rt, nr, rfl, hrt, rfl⟩
                      have HR := Lib.hid (show FE .f32 rt (rootC (stQ xs (cn .f32 be) (cn .f32 en) s xs.length)) from hrt.cast (by rw [hF.out.out]))
                      clear hrt
                      go_wp2
                      go_loopw [23] (fun i wr => ∃ k : Nat, k ≤ xs.length ∧ i = .int .i64 k ∧ Hid (StC w wr gs cs gr cr xs.length (.slice (some ⟨gm, 0, none⟩) xs.length cm) xs.length (stM xs (cn .f32 be) (cn .f32 en)) (stR xs (cn .f32 be) (cn .f32 en) s) (upto k (stS xs (cn .f32 be) (cn .f32 en) s) (stP xs (cn .f32 be) (cn .f32 en) s)))) (fun i _ => xs.length - (intOf i).toNat)
                      case atStart => exact ⟨0, by omega, rfl, (hA.out.drewN _).congr (fun _ _ => rfl) (fun _ _ => rfl) (fun j _ => (upto_no (Nat.zero_le j)).symm)⟩
                      case round =>
                        obtain ⟨k, hk, rfl, hA⟩ := hrel
                        by_cases hlt : k < xs.length
                        · obtain ⟨x3, c3, X3, f3⟩ := hA.out.atS hlt
                          have HX3 := Lib.hid (X3.cast (upto_no (Nat.le_refl k)))
                          have hst := fun (x n : Nat) => run_store32 (w := wr.drewN n) x c3 f3
                          clear X3 f3
                          have hki : (k : Int) < (xs.length : Int) := by omega
                          go_wp2
                          with_reducible refine up_quo _ _ _ _ _ ?_
                          intro p np hp
                          have HP := Lib.hid (show FE .f32 p (stS xs (cn .f32 be) (cn .f32 en) s k) from hp.cast (by rw [HX3.out.out, HR.out.out]; rfl))
                          clear hp
                          go_wp2
                          go_roundw
                          case rel => exact ⟨k + 1, by omega, by go_num, ((hA.out.drewN np).setS hlt HP.out).congr (fun _ _ => rfl) (fun _ _ => rfl) (fun j _ => by rw [upto_put rfl])⟩
                          case measure => simp [intOf]; omega
                        · obtain rfl : k = xs.length := by omega
                          have HG := Lib.hid (show Rg wr gs xs.length cs (stF xs (cn .f32 be) (cn .f32 en) (r + 1)) by
                            obtain ⟨_, _, _, _, _, _, _, _, _, _, h10, _⟩ := hA.out
                            exact h10.congr (fun j hj => by rw [upto_all hj, ← HF.out]; rfl))
                          go_wp2
                          go_roundw
                          case rel => exact ⟨r + 1, by omega, vint (by omega), HG, hA.out.below⟩
                          case measure => simp [intOf]; omega
        · obtain rfl : r = R := by omega
          have hz : ¬ (0 : Int) < (r : Int) - (r : Int) := by omega
          obtain ⟨ys, hyl, hO, hFE⟩ := hG.out
          have C := Lib.hid (fun w' (h : Fs w' (some ⟨gs, 0, none⟩) ys) => spec_l02List (some ⟨gs, 0, none⟩) cs ys w' h (by omega))
          rw [hyl] at C
          have HFs := Lib.hid (Ow.Fs' hO)
          have HO := Lib.hid (And.intro (hO.base (b' := w.heap.size) (fun k hk => by simp [Value.ownBlock] at hk; omega)) (st_list hyl hFE))
          clear hyl hO hFE hG
          cases hx : allFin ys with
          | true =>
            have H := Lib.hid hx
            clear hx
            go_wp2_with (go_at_call 42; refine (C.out _ HFs.out).mono ?_; rw [H.out, ckV_true]; rintro _ _ ⟨nd, rfl, rfl⟩)
            go_ret2
            exact ⟨_, ys, by rw [H.out]; rfl, HO.out.1.drewN _, HO.out.2, below_drewN' hB.out _⟩
          | false =>
            have H := Lib.hid hx
            clear hx
            go_wp2_with (go_at_call 42; refine (C.out _ HFs.out).mono ?_; rw [H.out, ckV_false]; rintro _ _ ⟨nd, rfl, rfl⟩)
            go_ret2
            exact ⟨.slice (some ⟨gs, 0, none⟩) xs.length cs, ys, by rw [H.out]; rfl, HO.out.1.drewN _, HO.out.2, below_drewN' hB.out _⟩
end Go.Proofs.Ytidnhbengmjpkaa
