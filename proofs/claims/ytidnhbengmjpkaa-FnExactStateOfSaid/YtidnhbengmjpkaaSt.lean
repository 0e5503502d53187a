/- StateOf: what a round makes of a state, in plain numbers. -/
import Derived.Test.YtidnhbengmjpkaaRg
import Derived.Test.YtidnhbengmjpkaaRt
import Derived.Deep.RegionHeld3
import Derived.WalkSpells
namespace Go.Proofs.Ytidnhbengmjpkaa
set_option maxRecDepth 100000
set_option linter.unusedVariables false
open Go.RowKit

section
variable (xs : List Nat) (be en : Option Nat)
def stE : Option Nat := cop .sub .f32 en (cn .f32 981668463)
def stM : Nat → Option Nat
  | 0 => nzC (cop .sub .f32 (cn .f32 (xs.getD 0 0)) (stE en))
  | k + 1 => nzC (cop .sub .f32 (cop .sub .f32 (cn .f32 (xs.getD (k + 1) 0)) (stE en)) (cop .mul .f32 (cop .quo .f32 be (stM k)) be))
def stR (s : Nat → Option Nat) : Nat → Option Nat
  | 0 => s 0
  | k + 1 => cop .sub .f32 (s (k + 1)) (cop .mul .f32 (cop .quo .f32 be (stM xs be en k)) (stR s k))
/-- behind j steps from the end -/
def stB (s : Nat → Option Nat) : Nat → Option Nat
  | 0 => some 0
  | j + 1 => cop .quo .f32 (cop .sub .f32 (stR xs be en s (xs.length - 1 - j)) (cop .mul .f32 be (stB s j))) (stM xs be en (xs.length - 1 - j))
def stP (s : Nat → Option Nat) (i : Nat) : Option Nat := stB xs be en s (xs.length - i)
def stQ (s : Nat → Option Nat) : Nat → Option Nat
  | 0 => some 0
  | k + 1 => cop .add .f32 (stQ s k) (cop .mul .f32 (stP xs be en s k) (stP xs be en s k))
def stS (s : Nat → Option Nat) (i : Nat) : Option Nat := cop .quo .f32 (stP xs be en s i) (rootC (stQ xs be en s xs.length))
def stF : Nat → Nat → Option Nat
  | 0 => fun _ => some 1065353216
  | r + 1 => stS xs be en (stF r)
def stL (r : Nat) : List (Option Nat) := (List.range xs.length).map (stF xs be en r)
end
theorem one_FE : FE .f32 1065353216 (some 1065353216) := ⟨by decide, by decide⟩

/-! copies -/
set_option maxHeartbeats 1000000 in
theorem slices_Clone (a : Option Addr) (c : Nat) (xs : List Nat) (w : World) (hs : Fs w a xs) (hne : xs ≠ []) (hl : xs.length ≤ 1048577) :
    Calls Try.prog 55 #[.slice a xs.length c] w (fun e w' => ∃ g cap, e = .returned (.slice (some ⟨g, 0, none⟩) xs.length cap) ∧ w.heap.size ≤ g ∧ Ow w' w.heap.size (.slice (some ⟨g, 0, none⟩) xs.length cap) xs ∧ Below w.heap.size w w') := by
  obtain ⟨b, off, rfl, hb, hc⟩ : ∃ b off, a = some ⟨b, off, none⟩ ∧ b < w.heap.size ∧ ∀ j, j < xs.length → w.cell? ⟨b, off + j, none⟩ = some (.float .f32 (xs.getD j 0)) := by
    rcases hs with q | q
    · exact absurd q hne
    · exact q
  have HS := Lib.hid (show Fs (w.alloc (.cells #[] 23)) (some ⟨b, off, none⟩) xs from Fs.below (.inr ⟨b, off, rfl, hb, hc⟩) ((Below.refl _ _).alloc (Nat.le_refl _) _))
  clear hs hc
  obtain ⟨v2, w2, hrun, hO, hG, hW⟩ := run_app_src (w.alloc (.cells #[] 23)) w.heap.size (.slice (some ⟨w.heap.size, 0, none⟩) 0 0) [] xs (some ⟨b, off, none⟩) c (Ow_empty w w.heap.size (Nat.le_refl _)) HS.out (fun q => absurd q hne) (by simp) (by simp; omega) 22
  have HO := Lib.hid (And.intro hO hG)
  clear hO hG hW
  have q22 : ∀ (w : World) (a : Option Addr) (n c n' c' : Nat), (binOp .eql 22 (.slice a n c) (.slice none n' c')).run Try.prog w = .ok (.bool a.isNone) w := fun w a n c n' c' => Lib.run_eql_slice_nil w _ _ a n c n' c' Try.underlying22
  go_enter Try.func55, Try.ntmps55
  go_wp2_with (at_builtin; refine Lib.wpList_append_run _ rfl (.tmp 5) (.tmp 6) 22 22 rfl _ _ rfl rfl _ _ hrun ?_)
  go_ret
  obtain ⟨g, cap, rfl⟩ : ∃ g cap, v2 = .slice (some ⟨g, 0, none⟩) xs.length cap := by
    obtain ⟨a2, cap2, e, _, hg⟩ := HO.out.1.Fs
    obtain ⟨g, rfl, _⟩ := hg (by simpa using hne)
    exact ⟨g, cap2, by simpa using e⟩
  refine ⟨g, cap, rfl, (HO.out.1.lt rfl).1, by simpa using HO.out.1, ?_⟩
  exact ((Below.refl _ _).alloc (Nat.le_refl _) _).grown HO.out.2 (by simp) (fun k hk => by simp [Value.ownBlock] at hk; omega)

theorem slices_Clone_rg (g n cap : Nat) (f : Nat → Option Nat) (w : World) (h : Rg w g n cap f) (h0 : 0 < n) (hn : n ≤ 1048577) :
    Calls Try.prog 55 #[.slice (some ⟨g, 0, none⟩) n cap] w (fun e w' => ∃ g2 cap2, e = .returned (.slice (some ⟨g2, 0, none⟩) n cap2) ∧ w.heap.size ≤ g2 ∧ Rg w' g2 n cap2 f ∧ Below w.heap.size w w') := by
  obtain ⟨ys, rfl, hO, hF⟩ := h
  obtain ⟨a2, c2, e, hFs, _⟩ := hO.Fs
  injection e with e1 e2 e3
  refine (slices_Clone (some ⟨g, 0, none⟩) cap ys w (by rw [e1]; exact hFs) (by intro q; rw [q] at h0; simp at h0) hn).mono ?_
  rintro e' w' ⟨g2, cap2, rfl, hg, hO2, hB⟩
  exact ⟨g2, cap2, rfl, hg, ⟨ys, rfl, hO2.base (fun k hk => by simp [Value.ownBlock] at hk; omega), hF⟩, hB⟩

/-- f, but c at k -/
def put (f : Nat → Option Nat) (k : Nat) (c : Option Nat) (i : Nat) : Option Nat := if i = k then c else f i
theorem put_put (f : Nat → Option Nat) (k : Nat) (c d : Option Nat) : put (put f k c) k d = put f k d := by
  funext i
  unfold put
  by_cases h : i = k
  · rw [if_pos h, if_pos h]
  · rw [if_neg h, if_neg h, if_neg h]
theorem put_at (f : Nat → Option Nat) (k : Nat) (c : Option Nat) : put f k c k = c := if_pos rfl
theorem put_no {f : Nat → Option Nat} {k i : Nat} {c : Option Nat} (h : i ≠ k) : put f k c i = f i := if_neg h
/-- the three slices of a round: the state, the middles, the right sides -/
def StA (w wx : World) (gm gr n cr : Nat) (fm fr fs : Nat → Option Nat) : Prop :=
  w.heap.size < gm ∧ w.heap.size < gr ∧ gm ≠ gr ∧ Rg wx gm n n fm ∧ Rg wx gr n cr fr ∧ Rg wx w.heap.size n n fs ∧ Below w.heap.size w wx
section
variable {w wx : World} {gm gr n cr : Nat} {fm fr fs : Nat → Option Nat} {j x : Nat} {c : Option Nat}
theorem StA.drewN (h : StA w wx gm gr n cr fm fr fs) (k : Nat) : StA w (wx.drewN k) gm gr n cr fm fr fs := ⟨h.1, h.2.1, h.2.2.1, h.2.2.2.1, h.2.2.2.2.1, h.2.2.2.2.2.1, below_drewN' h.2.2.2.2.2.2 k⟩
theorem StA.atM (h : StA w wx gm gr n cr fm fr fs) (hj : j < n) : ∃ x, wx.cell? ⟨gm, j, none⟩ = some (.float .f32 x) ∧ FE .f32 x (fm j) ∧ wx.frozen? ⟨gm, j, none⟩ = false := h.2.2.2.1.at hj
theorem StA.atR (h : StA w wx gm gr n cr fm fr fs) (hj : j < n) : ∃ x, wx.cell? ⟨gr, j, none⟩ = some (.float .f32 x) ∧ FE .f32 x (fr j) ∧ wx.frozen? ⟨gr, j, none⟩ = false := h.2.2.2.2.1.at hj
theorem StA.atS (h : StA w wx gm gr n cr fm fr fs) (hj : j < n) : ∃ x, wx.cell? ⟨w.heap.size, j, none⟩ = some (.float .f32 x) ∧ FE .f32 x (fs j) ∧ wx.frozen? ⟨w.heap.size, j, none⟩ = false := h.2.2.2.2.2.1.at hj
theorem StA.setM (h : StA w wx gm gr n cr fm fr fs) (hj : j < n) (hx : FE .f32 x c) : StA w (wx.setCell ⟨gm, j, none⟩ (.float .f32 x)) gm gr n cr (put fm j c) fr fs :=
  ⟨h.1, h.2.1, h.2.2.1, h.2.2.2.1.set hj hx, h.2.2.2.2.1.other h.2.2.1 _ _, h.2.2.2.2.2.1.other (by have := h.1; omega) _ _, h.2.2.2.2.2.2.setCell (Nat.le_of_lt h.1) _⟩
theorem StA.setR (h : StA w wx gm gr n cr fm fr fs) (hj : j < n) (hx : FE .f32 x c) : StA w (wx.setCell ⟨gr, j, none⟩ (.float .f32 x)) gm gr n cr fm (put fr j c) fs :=
  ⟨h.1, h.2.1, h.2.2.1, h.2.2.2.1.other (fun q => h.2.2.1 q.symm) _ _, h.2.2.2.2.1.set hj hx, h.2.2.2.2.2.1.other (by have := h.2.1; omega) _ _, h.2.2.2.2.2.2.setCell (Nat.le_of_lt h.2.1) _⟩
theorem StA.setS (h : StA w wx gm gr n cr fm fr fs) (hj : j < n) (hx : FE .f32 x c) : StA w (wx.setCell ⟨w.heap.size, j, none⟩ (.float .f32 x)) gm gr n cr fm fr (put fs j c) :=
  ⟨h.1, h.2.1, h.2.2.1, h.2.2.2.1.other (by have := h.1; omega) _ _, h.2.2.2.2.1.other (by have := h.2.1; omega) _ _, h.2.2.2.2.2.1.set hj hx, h.2.2.2.2.2.2.setCell (Nat.le_refl _) _⟩
theorem StA.congr (h : StA w wx gm gr n cr fm fr fs) {fm' fr' fs' : Nat → Option Nat} (h1 : ∀ j, j < n → fm j = fm' j) (h2 : ∀ j, j < n → fr j = fr' j) (h3 : ∀ j, j < n → fs j = fs' j) : StA w wx gm gr n cr fm' fr' fs' :=
  ⟨h.1, h.2.1, h.2.2.1, h.2.2.2.1.congr h1, h.2.2.2.2.1.congr h2, h.2.2.2.2.2.1.congr h3, h.2.2.2.2.2.2⟩
theorem StA.below (h : StA w wx gm gr n cr fm fr fs) : Below w.heap.size w wx := h.2.2.2.2.2.2
end
theorem FE.word {r : Nat} {c : Option Nat} (h : FE .f32 r c) : r < 4294967296 := by have := h.lt; rw [f32_sign] at this; omega
theorem undrewB {w w' : World} (h : Below w.drew.heap.size w.drew w') : Below w.heap.size w w' := ⟨h.os, h.tape, h.output, h.size, h.block⟩
theorem st_way1 {w wr w4 : World} {g4 c4 n : Nat} {f : Nat → Option Nat} (hn : n ≤ 1048576) (hG : Rg wr w.heap.size n n f) (hB : Below w.heap.size w wr) (hg : (wr.alloc (.cells (Array.replicate n (.float .f32 0)) 23)).drew.heap.size ≤ g4)
    (hR : Rg w4 g4 n c4 f) (hB4 : Below (wr.alloc (.cells (Array.replicate n (.float .f32 0)) 23)).drew.heap.size (wr.alloc (.cells (Array.replicate n (.float .f32 0)) 23)).drew w4) : StA w w4 wr.heap.size g4 n c4 (fun _ => some 0) f f := by
  have h0 := hG.lt
  have h1 : wr.heap.size + 1 ≤ g4 := by simpa using hg
  have hB5 := undrewB hB4
  have hz : (wr.alloc (.cells (Array.replicate n (.float .f32 0)) 23)).heap.size = wr.heap.size + 1 := by simp
  refine ⟨h0, by omega, by omega, (Rg_made' wr n hn).below hB5 (by omega), hR, (hG.alloc _).below hB5 (by omega), (hB.alloc (by omega) _).trans (hB5.mono (by omega))⟩
theorem st_way2 {w wr w4 : World} {g4 c4 n : Nat} {f : Nat → Option Nat} (hn : n ≤ 1048576) (hG : Rg wr w.heap.size n n f) (hB : Below w.heap.size w wr) (hg : wr.drew.heap.size ≤ g4)
    (hR : Rg w4 g4 n c4 f) (hB4 : Below wr.drew.heap.size wr.drew w4) : StA w (w4.alloc (.cells (Array.replicate n (.float .f32 0)) 23)) w4.heap.size g4 n c4 (fun _ => some 0) f f := by
  have h0 := hG.lt
  have h1 : wr.heap.size ≤ g4 := hg
  have h2 := hR.lt
  have hB5 := undrewB hB4
  have hz := hB5.size
  refine ⟨by omega, by omega, by omega, Rg_made' w4 n hn, hR.alloc _, (hG.below hB5 h0).alloc _, (hB.trans (hB5.mono (by omega))).alloc (by omega) _⟩

/-- the numbers so far of one kind, the others of another -/
def upto (k : Nat) (f g : Nat → Option Nat) (i : Nat) : Option Nat := if i < k then f i else g i
theorem upto_set {k : Nat} {f g : Nat → Option Nat} {c : Option Nat} (hc : c = f k) (j : Nat) : (if j = k then c else upto k f g j) = upto (k + 1) f g j := by
  unfold upto
  by_cases h : j = k
  · subst h; rw [if_pos rfl, if_pos (by omega), hc]
  · rw [if_neg h]
    by_cases h2 : j < k
    · rw [if_pos h2, if_pos (by omega)]
    · rw [if_neg h2, if_neg (by omega)]
theorem upto_put {k : Nat} {f g : Nat → Option Nat} {c : Option Nat} (hc : c = f k) : put (upto k f g) k c = upto (k + 1) f g := funext fun j => upto_set hc j
theorem st_mid (xs : List Nat) (be en : Option Nat) {k : Nat} (hk : 0 < k) : stM xs be en k = nzC (cop .sub .f32 (cop .sub .f32 (cn .f32 (xs.getD k 0)) (stE en)) (cop .mul .f32 (cop .quo .f32 be (stM xs be en (k - 1))) be)) := by
  obtain ⟨j, rfl⟩ : ∃ j, k = j + 1 := ⟨k - 1, by omega⟩
  rfl
theorem st_rgt (xs : List Nat) (be en : Option Nat) (s : Nat → Option Nat) {k : Nat} (hk : 0 < k) : stR xs be en s k = cop .sub .f32 (s k) (cop .mul .f32 (cop .quo .f32 be (stM xs be en (k - 1))) (stR xs be en s (k - 1))) := by
  obtain ⟨j, rfl⟩ : ∃ j, k = j + 1 := ⟨k - 1, by omega⟩
  rfl
theorem st_back (xs : List Nat) (be en : Option Nat) (s : Nat → Option Nat) {t : Nat} (h0 : 0 < t) (ht : t ≤ xs.length) : stB xs be en s (xs.length - (t - 1)) = cop .quo .f32 (cop .sub .f32 (stR xs be en s (t - 1)) (cop .mul .f32 be (stB xs be en s (xs.length - t)))) (stM xs be en (t - 1)) := by
  rw [show xs.length - (t - 1) = xs.length - t + 1 by omega]
  show cop .quo .f32 (cop .sub .f32 (stR xs be en s (xs.length - 1 - (xs.length - t))) _) (stM xs be en (xs.length - 1 - (xs.length - t))) = _
  rw [show xs.length - 1 - (xs.length - t) = t - 1 by omega]
theorem st_down {f g : Nat → Option Nat} {t : Nat} {c : Option Nat} (h0 : 0 < t) (hc : c = g (t - 1)) (j : Nat) : put (upto t f g) (t - 1) c j = upto (t - 1) f g j := by
  unfold put upto
  by_cases h : j = t - 1
  · subst h; rw [if_pos rfl, if_neg (by omega), hc]
  · rw [if_neg h]
    by_cases h2 : j < t
    · rw [if_pos h2, if_pos (by omega)]
    · rw [if_neg h2, if_neg (by omega)]
theorem vint {a b : Int} (h : a = b) : Value.int .i64 a = Value.int .i64 b := by rw [h]
theorem st_list {n : Nat} {ys : List Nat} {f : Nat → Option Nat} (hl : ys.length = n) (hF : ∀ j, j < n → FE .f32 (ys.getD j 0) (f j)) : ys.map (cn .f32) = (List.range n).map f := by
  apply List.ext_getElem
  · simp [hl]
  · intro i h1 h2
    have hi : i < ys.length := by simpa using h1
    have := (hF i (by omega)).out
    rw [List.getD_eq_getElem?_getD, List.getElem?_eq_getElem hi] at this
    simpa using this
theorem st_right0 {xs : List Nat} {be en : Option Nat} {s : Nat → Option Nat} {k : Nat} (hk : k = 0) (j : Nat) : upto k (stR xs be en s) s j = upto (k + 1) (stR xs be en s) s j := by
  subst hk
  unfold upto
  rw [if_neg (by omega)]
  by_cases h : j = 0
  · subst h; rw [if_pos (by omega)]; rfl
  · rw [if_neg (by omega)]
theorem upto_all {k j : Nat} {f g : Nat → Option Nat} (h : j < k) : upto k f g j = f j := by unfold upto; rw [if_pos h]
theorem upto_no {k j : Nat} {f g : Nat → Option Nat} (h : k ≤ j) : upto k f g j = g j := by unfold upto; rw [if_neg (by omega)]

set_option maxHeartbeats 8000000 in
theorem impl_StateOf_good (a : Option Addr) (c : Nat) (xs : List Nat) (be en : Nat) (R : Nat) (w : World) (hs : Fs w a xs) (h1 : 1 ≤ xs.length) (h48 : xs.length ≤ 48) (hb : be < 4294967296) (he : en < 4294967296) (hB : rwB xs (cn .f32 be) = true) (hE : isFin (cn .f32 en) = true) (hR1 : 1 ≤ R) (hR8 : R ≤ 8) :
    Calls Try.prog 31 #[.slice a xs.length c, .float .f32 be, .float .f32 en, .int .i64 R] w (RetCn (stL xs (cn .f32 be) (cn .f32 en) R) w) := by
  have HS := Lib.hid hs
  have HB := Lib.hid (And.intro hB hE)
  have HW := Lib.hid (show (decide ((1 : Int) ≤ (R : Int)) && decide ((R : Int) ≤ 8)) = true by simp; omega)
  have hm := run_make32 xs.length (by omega)
  clear hs hB hE
  go_enter Try.func31, Try.ntmps31
  go_wp2_with fail
  refine (impl_areRows a c xs be _ HS.out (by omega)).mono ?_
  rw [HB.out.1]
  rintro _ _ ⟨n1, rfl, rfl⟩
  go_wp2_with fail
  refine (impl_IsFinite en _).mono ?_
  rw [HB.out.2]
  rintro _ _ ⟨n2, rfl, rfl⟩
  go_wp2_with fail
  refine (impl_within _ _ _ _).mono ?_
  rw [HW.out]
  rintro _ _ ⟨n3, rfl, rfl⟩
  go_wp2
  go_loopw [12, 45] (fun ii i wr => ∃ k : Nat, k ≤ xs.length ∧ i = .int .i64 k ∧ Hid (Rg wr w.heap.size xs.length xs.length (upto k (fun _ => some 1065353216) (fun _ => some 0))) ∧ Hid (Below w.heap.size w wr)) (fun _ i _ => xs.length - (intOf i).toNat)
  case atStart =>
    have hd := below_drewN' (Below.refl w.heap.size w) (n1 + n2 + n3)
    exact ⟨0, by omega, rfl, (Rg_made' (w.drewN (n1 + n2 + n3)) xs.length (by omega)).congr (fun j _ => by rw [upto_no (Nat.zero_le j)]), hd.alloc hd.size _⟩
  case round =>
    obtain ⟨k, hk, rfl, hG, hB⟩ := hrel
    by_cases hlt : k < xs.length
    · obtain ⟨x, hx, _, hf⟩ := hG.out.at hlt
      have hst := run_store32 1065353216 hx hf
      have G := Lib.hid (hG.out.set hlt one_FE)
      clear hx hf hG
      have hki : (k : Int) < (xs.length : Int) := by omega
      go_wp2
      go_roundw
      case rel => exact ⟨k + 1, by omega, by go_num, G.out.congr (fun j _ => upto_set rfl j), hB.out.setCell (Nat.le_refl _) _⟩
      case measure => simp [intOf]; omega
    · obtain rfl : k = xs.length := by omega
      have G := Lib.hid (hG.out.congr (f' := stF xs (cn .f32 be) (cn .f32 en) 0) (fun j hj => upto_all hj))
      clear hG
      go_wp2
      go_loopw [53] (fun i wr => ∃ r : Nat, r ≤ R ∧ i = .int .i64 r ∧ Hid (Rg wr w.heap.size xs.length xs.length (stF xs (cn .f32 be) (cn .f32 en) r)) ∧ Hid (Below w.heap.size w wr)) (fun i _ => R - (intOf i).toNat)
      case atStart => exact ⟨0, by omega, rfl, G, hB⟩
      case round =>
        obtain ⟨r, hr, rfl, hG, hB⟩ := hrel
        by_cases hlt : r < R
        · have hli : (r : Int) < (R : Int) := by omega
          go_upto_region 12 with fail
          go_cut [13, 14] (fun m rt wx => ∃ gm gr cr : Nat, m = .slice (some ⟨gm, 0, none⟩) xs.length xs.length ∧ rt = .slice (some ⟨gr, 0, none⟩) xs.length cr ∧ Hid (StA w wx gm gr xs.length cr (fun _ => some 0) (stF xs (cn .f32 be) (cn .f32 en) r) (stF xs (cn .f32 be) (cn .f32 en) r)))
          case first =>
            go_region_with (go_at_call 55; refine (slices_Clone_rg _ _ _ (stF xs (cn .f32 be) (cn .f32 en) r) _ (by first | exact hG.out | exact hG.out.alloc _) (by omega) (by omega)).mono ?_; rintro _ w4 ⟨g4, c4, rfl, hg4, hR4, hB4⟩)
            · have A := Lib.hid (st_way1 (by omega) hG.out hB.out hg4 hR4 hB4)
              clear hg4 hR4 hB4
              go_wp2
              go_meet
              exact ⟨_, _, _, rfl, rfl, A⟩
            · have A := Lib.hid (st_way2 (by omega) hG.out hB.out hg4 hR4 hB4)
              clear hg4 hR4 hB4
              go_wp2
              go_meet
              exact ⟨_, _, _, rfl, rfl, A⟩
          case rest =>
            obtain ⟨gm, gr, cr, rfl, rfl, hA⟩ := hcut
            clear hG hB
            generalize hs : stF xs (cn .f32 be) (cn .f32 en) r = s at hA
            have HF := Lib.hid hs
            clear hs
            go_wp2
            go_loopw [15, 16, 17, 61] (fun ii rv qv i wr => ∃ k : Nat, k ≤ xs.length ∧ i = .int .i64 k ∧ Hid (StA w wr gm gr xs.length cr (upto k (stM xs (cn .f32 be) (cn .f32 en)) (fun _ => some 0)) (upto k (stR xs (cn .f32 be) (cn .f32 en) s) s) s)) (fun _ _ _ i _ => xs.length - (intOf i).toNat)
            case atStart => exact ⟨0, by omega, rfl, hA.out.congr (fun j _ => by rw [upto_no (Nat.zero_le j)]) (fun j _ => by rw [upto_no (Nat.zero_le j)]) (fun j _ => rfl)⟩
            case round =>
              obtain ⟨k, hk, rfl, hA⟩ := hrel
              by_cases hlt : k < xs.length
              · obtain ⟨b1, off1, rfl, _, hc1⟩ := (HS.out.below hA.out.below).at hlt
                have r1 := hc1 k hlt
                clear hc1
                obtain ⟨y, hy⟩ : ∃ y, y = xs.getD k 0 := ⟨_, rfl⟩
                rw [← hy] at r1
                have Y := Lib.hid hy
                clear hy
                obtain ⟨m0, c0, _, f0⟩ := hA.out.atM hlt
                have hst := fun (x n : Nat) => run_store32 (w := wr.drewN n) x c0 f0
                clear c0 f0
                have hki : (k : Int) < (xs.length : Int) := by omega
                by_cases h0 : k = 0
                · have H0 := Lib.hid h0
                  have h0' : ¬ (0 : Int) < (k : Int) := by omega
                  clear h0
                  go_wp2
                  with_reducible refine up_sub _ _ _ _ _ ?_
                  intro e1 ne1 he1
                  go_wp2
                  with_reducible refine up_sub _ _ _ _ _ ?_
                  intro x nx hx
                  have X := Lib.hid (show FE .f32 x (cop .sub .f32 (cn .f32 (xs.getD k 0)) (stE (cn .f32 en))) from hx.cast (by rw [he1.out, Y.out]; rfl))
                  clear he1 hx
                  go_upto_region 21 with fail
                  generalize hW : (wr.drewN (ne1 + nx)).setCell ⟨gm, k, none⟩ (.float .f32 x) = W2
                  have A2 := Lib.hid (show StA w W2 gm gr xs.length cr _ _ s by rw [← hW]; exact (hA.out.drewN _).setM hlt X.out)
                  clear hW hst
                  obtain ⟨x2, c2, X2, f2⟩ := A2.out.atM hlt
                  have HX2 := Lib.hid (X2.cast (put_at _ _ _))
                  clear X2
                  have hst := fun (x n : Nat) => run_store32 (w := W2.drewN n) x c2 f2
                  clear f2
                  go_wp2_with fail
                  refine (impl_notZero x2 HX2.out.word _).mono ?_
                  rintro _ _ ⟨q2, n2, rfl, hq2, rfl⟩
                  have HQ := Lib.hid (show FE .f32 q2 (stM xs (cn .f32 be) (cn .f32 en) k) from hq2.cast (by rw [HX2.out.out, H0.out]; rfl))
                  clear hq2 c2
                  go_wp2
                  go_roundw
                  case rel => exact ⟨k + 1, by omega, by go_num, ((A2.out.drewN n2).setM hlt HQ.out).congr (fun j _ => by rw [put_put, upto_put rfl]) (fun j hj => st_right0 H0.out j) (fun _ _ => rfl)⟩
                  case measure => simp [intOf]; omega
                · have H0 := Lib.hid h0
                  have h0' : (0 : Int) < (k : Int) := by omega
                  have h0n : 0 < k := by omega
                  clear h0
                  go_wp2
                  with_reducible refine up_sub _ _ _ _ _ ?_
                  intro e1 ne1 he1
                  go_wp2
                  with_reducible refine up_sub _ _ _ _ _ ?_
                  intro x nx hx
                  have X := Lib.hid (show FE .f32 x (cop .sub .f32 (cn .f32 (xs.getD k 0)) (stE (cn .f32 en))) from hx.cast (by rw [he1.out, Y.out]; rfl))
                  clear he1 hx
                  go_upto_region 18 with fail
                  generalize hW : (wr.drewN (ne1 + nx)).setCell ⟨gm, k, none⟩ (.float .f32 x) = W2
                  have A2 := Lib.hid (show StA w W2 gm gr xs.length cr _ _ s by rw [← hW]; exact (hA.out.drewN _).setM hlt X.out)
                  clear hW hst
                  obtain ⟨x2, c2, X2, f2⟩ := A2.out.atM hlt
                  have HX2 := Lib.hid (X2.cast (put_at _ _ _))
                  obtain ⟨m2, d2, M2, _⟩ := A2.out.atM (j := k - 1) (by omega)
                  have HM2 := Lib.hid (show FE .f32 m2 (stM xs (cn .f32 be) (cn .f32 en) (k - 1)) from M2.cast (by rw [put_no (by omega), upto_all (by omega)]))
                  clear X2 M2
                  have hst := fun (x n : Nat) => run_store32 (w := W2.drewN n) x c2 f2
                  clear f2
                  go_wp2
                  with_reducible refine up_quo _ _ _ _ _ ?_
                  intro q nq hq
                  have HQ := Lib.hid (show FE .f32 q (cop .quo .f32 (cn .f32 be) (stM xs (cn .f32 be) (cn .f32 en) (k - 1))) from hq.cast (by rw [HM2.out.out]))
                  clear hq
                  go_wp2
                  with_reducible refine up_mul _ _ _ _ _ ?_
                  intro p np hp
                  go_wp2
                  with_reducible refine up_sub _ _ _ _ _ ?_
                  intro y3 ny hy
                  have HY := Lib.hid (show FE .f32 y3 (cop .sub .f32 (cop .sub .f32 (cn .f32 (xs.getD k 0)) (stE (cn .f32 en))) (cop .mul .f32 (cop .quo .f32 (cn .f32 be) (stM xs (cn .f32 be) (cn .f32 en) (k - 1))) (cn .f32 be))) from hy.cast (by rw [hp.out, HX2.out.out, HQ.out.out]))
                  clear hp hy
                  go_upto_region 20 with fail
                  generalize hW : (W2.drewN (nq + np + ny)).setCell ⟨gm, k, none⟩ (.float .f32 y3) = W3
                  have A3 := Lib.hid (show StA w W3 gm gr xs.length cr (put (upto k (stM xs (cn .f32 be) (cn .f32 en)) (fun _ => some 0)) k _) _ s by rw [← hW]; exact put_put _ k _ _ ▸ (A2.out.drewN _).setM hlt HY.out)
                  clear hW hst A2 c2 d2
                  obtain ⟨rk, c3, R3, f3⟩ := A3.out.atR hlt
                  obtain ⟨rj, d3, J3, _⟩ := A3.out.atR (j := k - 1) (by omega)
                  have HR3 := Lib.hid (And.intro (R3.cast (upto_no (Nat.le_refl k))) (J3.cast (upto_all (by omega))))
                  clear R3 J3
                  have hst := fun (x n : Nat) => run_store32 (w := W3.drewN n) x c3 f3
                  have hst2 := fun (x n : Nat) => run_store32 (w := W3.drew.drewN n) x c3 f3
                  clear f3
                  have hmul := fun t w => run_flv .mul (by simp) t q rj w
                  have hsub := fun t p w => run_flv .sub (by simp) t rk p w
                  have s1 : (0 : Int) ≤ (k : Int) - 1 := by omega
                  have s2 : (k : Int) - 1 < (xs.length : Int) := by omega
                  have s3 : ((k : Int) - 1).toNat = k - 1 := by omega
                  have s4 : IntKind.i64.wrap ((k : Int) - 1) = (k : Int) - 1 := IntWalk.i64_in _ (by omega)
                  go_region_with (fail)
                  all_goals
                    have HZ := Lib.hid (show FE .f32 (flv .sub rk (flv .mul q rj W3.drew) (W3.drewN (1 + fln .mul q rj))) (stR xs (cn .f32 be) (cn .f32 en) s k) from (FE_flv .sub rk (flv .mul q rj W3.drew) _).cast (by rw [(FE_flv .mul q rj W3.drew).out, HR3.out.1.out, HR3.out.2.out, HQ.out.out, ← st_rgt _ _ _ _ h0n]))
                    generalize hW : World.setCell (W3.drewN (1 + fln .mul q rj + fln .sub rk (flv .mul q rj W3.drew))) ⟨gr, k, none⟩ _ = W4
                    have A4 := Lib.hid (show StA w W4 gm gr xs.length cr _ _ s by rw [← hW]; exact (A3.out.drewN _).setR hlt HZ.out)
                    clear hW hst hst2 hmul hsub s1 s2 s3 s4 A3 HZ c3 d3
                    obtain ⟨x5, c5, X5, f5⟩ := A4.out.atM hlt
                    have HX5 := Lib.hid (X5.cast (put_at _ _ _))
                    clear X5
                    have hst := fun (x n : Nat) => run_store32 (w := W4.drewN n) x c5 f5
                    clear f5
                    go_wp2_with fail
                    refine (impl_notZero x5 HX5.out.word _).mono ?_
                    rintro _ _ ⟨q6, n6, rfl, hq6, rfl⟩
                    have HQ6 := Lib.hid (show FE .f32 q6 (stM xs (cn .f32 be) (cn .f32 en) k) from hq6.cast (by rw [HX5.out.out, st_mid _ _ _ h0n]))
                    clear hq6 c5
                    go_wp2
                    go_roundw
                    case rel => exact ⟨k + 1, by omega, by go_num, ((A4.out.drewN n6).setM hlt HQ6.out).congr (fun j _ => by rw [put_put, upto_put rfl]) (fun j hj => by rw [upto_put rfl]) (fun _ _ => rfl)⟩
                    case measure => simp [intOf]; omega
              · obtain rfl : k = xs.length := by omega
                have A := Lib.hid (hA.out.congr (fm' := stM xs (cn .f32 be) (cn .f32 en)) (fr' := stR xs (cn .f32 be) (cn .f32 en) s) (fs' := upto xs.length s (stP xs (cn .f32 be) (cn .f32 en) s)) (fun j hj => upto_all hj) (fun j hj => upto_all hj) (fun j hj => (upto_all hj).symm))
                clear hA
                go_wp2
                go_loopw [18, 20] (fun bh i wr => ∃ t b : Nat, t ≤ xs.length ∧ i = .int .i64 ((t : Int) - 1) ∧ bh = .float .f32 b ∧ Hid (FE .f32 b (stB xs (cn .f32 be) (cn .f32 en) s (xs.length - t))) ∧ Hid (StA w wr gm gr xs.length cr (stM xs (cn .f32 be) (cn .f32 en)) (stR xs (cn .f32 be) (cn .f32 en) s) (upto t s (stP xs (cn .f32 be) (cn .f32 en) s)))) (fun _ i _ => (intOf i + 1).toNat)
                case atStart => exact ⟨xs.length, 0, by omega, rfl, rfl, Lib.hid (by rw [Nat.sub_self]; exact ⟨cn_zero32, by decide⟩), A⟩
                case round =>
                  obtain ⟨t, b, ht, rfl, rfl, hF, hA⟩ := hrel
                  by_cases h0 : 0 < t
                  · obtain ⟨rr, c3, R3, _⟩ := hA.out.atR (j := t - 1) (by omega)
                    obtain ⟨mm, d3, M3, _⟩ := hA.out.atM (j := t - 1) (by omega)
                    have HR3 := Lib.hid (And.intro R3 M3)
                    clear R3 M3
                    have hmul := fun ty w => run_flv .mul (by simp) ty be b w
                    have hsub := fun ty p w => run_flv .sub (by simp) ty rr p w
                    have hquo := fun ty p w => run_flv .quo (by simp) ty p mm w
                    have s1 : (0 : Int) ≤ (t : Int) - 1 := by omega
                    have s2 : (t : Int) - 1 < (xs.length : Int) := by omega
                    have s3 : ((t : Int) - 1).toNat = t - 1 := by omega
                    go_upto_region 27 with fail
                    go_region_with (fail)
                    all_goals
                      have HV := Lib.hid (show FE .f32 (flv .quo (flv .sub rr (flv .mul be b wr.drew) (wr.drewN (1 + fln .mul be b))) mm (wr.drewN (1 + fln .mul be b + fln .sub rr (flv .mul be b wr.drew)))) (stB xs (cn .f32 be) (cn .f32 en) s (xs.length - (t - 1))) from
                        (FE_flv .quo (flv .sub rr (flv .mul be b wr.drew) (wr.drewN (1 + fln .mul be b))) mm _).cast (by rw [(FE_flv .sub rr (flv .mul be b wr.drew) _).out, (FE_flv .mul be b wr.drew).out, HR3.out.1.out, HR3.out.2.out, hF.out.out, ← st_back _ _ _ _ h0 ht]))
                      generalize flv .quo (flv .sub rr (flv .mul be b wr.drew) (wr.drewN (1 + fln .mul be b))) mm (wr.drewN (1 + fln .mul be b + fln .sub rr (flv .mul be b wr.drew))) = v at HV ⊢
                      generalize hW : World.drewN wr (1 + fln .mul be b + fln .sub rr (flv .mul be b wr.drew) + fln .quo (flv .sub rr (flv .mul be b wr.drew) (wr.drewN (1 + fln .mul be b))) mm) = W2
                      have A2 := Lib.hid (show StA w W2 gm gr xs.length cr _ _ _ by rw [← hW]; exact hA.out.drewN _)
                      clear hW hmul hsub hquo c3 d3 HR3
                      obtain ⟨x5, c5, _, f5⟩ := A2.out.atS (j := t - 1) (by omega)
                      have hst := run_store32 v c5 f5
                      clear c5 f5
                      go_wp2
                      go_roundw
                      case rel => exact ⟨t - 1, v, by omega, vint (by omega), rfl, HV, (A2.out.setS (by omega) HV.out).congr (fun _ _ => rfl) (fun _ _ => rfl) (fun j hj => st_down h0 rfl j)⟩
                      case measure => simp [intOf]; omega
                  · obtain rfl : t = 0 := by omega
                    rw [show ((0 : Nat) : Int) - 1 = -1 from rfl]
                    have A := Lib.hid (hA.out.congr (fs' := stP xs (cn .f32 be) (cn .f32 en) s) (fun _ _ => rfl) (fun _ _ => rfl) (fun j hj => upto_no (Nat.zero_le j)))
                    clear hA hF
                    go_wp2
                    go_loopw [19, 22, 138] (fun sq xv i wr => ∃ k q : Nat, k ≤ xs.length ∧ i = .int .i64 k ∧ sq = .float .f32 q ∧ Hid (FE .f32 q (stQ xs (cn .f32 be) (cn .f32 en) s k)) ∧ Hid (StA w wr gm gr xs.length cr (stM xs (cn .f32 be) (cn .f32 en)) (stR xs (cn .f32 be) (cn .f32 en) s) (stP xs (cn .f32 be) (cn .f32 en) s))) (fun _ _ i _ => xs.length - (intOf i).toNat)
                    case atStart => exact ⟨0, 0, by omega, rfl, rfl, ⟨cn_zero32, by decide⟩, A⟩
                    case round =>
                      obtain ⟨k, q, hk, rfl, rfl, hF, hA⟩ := hrel
                      by_cases hlt : k < xs.length
                      · obtain ⟨x3, c3, X3, _⟩ := hA.out.atS hlt
                        have HX3 := Lib.hid X3
                        clear X3
                        have hki : (k : Int) < (xs.length : Int) := by omega
                        go_wp2
                        with_reducible refine up_mul _ _ _ _ _ ?_
                        intro p np hp
                        go_wp2
                        with_reducible refine up_add _ _ _ _ _ ?_
                        intro q2 nq hq
                        have HQ := Lib.hid (show FE .f32 q2 (stQ xs (cn .f32 be) (cn .f32 en) s (k + 1)) from hq.cast (by rw [hp.out, HX3.out.out, hF.out.out]; rfl))
                        clear hp hq
                        go_wp2
                        go_roundw
                        case rel => exact ⟨k + 1, q2, by omega, by go_num, rfl, HQ, hA.out.drewN _⟩
                        case measure => simp [intOf]; omega
                      · obtain rfl : k = xs.length := by omega
                        go_wp2_with fail
                        refine (impl_RootNumber q hF.out.word _).mono ?_
                        rintro _ _ ⟨rt, nr, rfl, hrt, rfl⟩
                        have HR := Lib.hid (show FE .f32 rt (rootC (stQ xs (cn .f32 be) (cn .f32 en) s xs.length)) from hrt.cast (by rw [hF.out.out]))
                        clear hrt
                        go_wp2
                        go_loopw [24, 152] (fun ii i wr => ∃ k : Nat, k ≤ xs.length ∧ i = .int .i64 k ∧ Hid (StA w wr gm gr xs.length cr (stM xs (cn .f32 be) (cn .f32 en)) (stR xs (cn .f32 be) (cn .f32 en) s) (upto k (stS xs (cn .f32 be) (cn .f32 en) s) (stP xs (cn .f32 be) (cn .f32 en) s)))) (fun _ i _ => xs.length - (intOf i).toNat)
                        case atStart => exact ⟨0, by omega, rfl, (hA.out.drewN _).congr (fun _ _ => rfl) (fun _ _ => rfl) (fun j _ => (upto_no (Nat.zero_le j)).symm)⟩
                        case round =>
                          obtain ⟨k, hk, rfl, hA⟩ := hrel
                          by_cases hlt : k < xs.length
                          · obtain ⟨x3, c3, X3, f3⟩ := hA.out.atS hlt
                            have HX3 := Lib.hid (X3.cast (upto_no (Nat.le_refl k)))
                            have hst := fun (x n : Nat) => run_store32 (w := wr.drewN n) x c3 f3
                            clear X3 f3
                            have hki : (k : Int) < (xs.length : Int) := by omega
                            go_wp2
                            with_reducible refine up_quo _ _ _ _ _ ?_
                            intro p np hp
                            have HP := Lib.hid (show FE .f32 p (stS xs (cn .f32 be) (cn .f32 en) s k) from hp.cast (by rw [HX3.out.out, HR.out.out]; rfl))
                            clear hp
                            go_wp2
                            go_roundw
                            case rel => exact ⟨k + 1, by omega, by go_num, ((hA.out.drewN np).setS hlt HP.out).congr (fun _ _ => rfl) (fun _ _ => rfl) (fun j _ => by rw [upto_put rfl])⟩
                            case measure => simp [intOf]; omega
                          · obtain rfl : k = xs.length := by omega
                            go_wp2
                            go_roundw
                            case rel => exact ⟨r + 1, by omega, by go_num, hA.out.2.2.2.2.2.1.congr (fun j hj => by rw [upto_all hj, ← HF.out]; rfl), hA.out.below⟩
                            case measure => simp [intOf]; omega
        · obtain rfl : r = R := by omega
          obtain ⟨ys, hyl, hO, hFE⟩ := hG.out
          have C := Lib.hid (fun w' (h : Fs w' (some ⟨w.heap.size, 0, none⟩) ys) => impl_checkedNumbers (some ⟨w.heap.size, 0, none⟩) xs.length ys w' h (by omega))
          rw [hyl] at C
          have HFs := Lib.hid (Ow.Fs' hO)
          have HO := Lib.hid (And.intro hO (st_list hyl hFE))
          clear hyl hO hFE hG
          cases hx : allFin ys with
          | true =>
            have H := Lib.hid hx
            clear hx
            go_wp2_with (go_at_call 45; refine (C.out _ HFs.out).mono ?_; rw [H.out, ckV_true]; rintro _ _ ⟨nd, rfl, rfl⟩)
            go_ret2
            exact ⟨_, ys, by rw [H.out]; rfl, HO.out.1.drewN _, HO.out.2, below_drewN' hB.out _⟩
          | false =>
            have H := Lib.hid hx
            clear hx
            go_wp2_with (go_at_call 45; refine (C.out _ HFs.out).mono ?_; rw [H.out, ckV_false]; rintro _ _ ⟨nd, rfl, rfl⟩)
            go_ret2
            exact ⟨.slice (some ⟨w.heap.size, 0, none⟩) xs.length xs.length, ys, by rw [H.out]; rfl, HO.out.1.drewN _, HO.out.2, below_drewN' hB.out _⟩
end Go.Proofs.Ytidnhbengmjpkaa
