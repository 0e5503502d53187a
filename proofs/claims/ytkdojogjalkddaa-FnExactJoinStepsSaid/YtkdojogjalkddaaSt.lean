/- StateOf: what a round makes of a state, in plain numbers. -/
import Derived.Test.YtkdojogjalkddaaRg
import Derived.Test.YtkdojogjalkddaaRt
import Derived.Deep.RegionHeld3
import Derived.WalkSpells
namespace Go.Proofs.Ytkdojogjalkddaa
set_option maxRecDepth 100000
set_option linter.unusedVariables false
open Go.RowKit

section
variable (xs : List Nat) (be en : Option Nat)
def stE : Option Nat := cop .sub .f32 en (cn .f32 981668463)
def stM : Nat → Option Nat
  | 0 => nzC (cop .sub .f32 (cn .f32 (xs.getD 0 0)) (stE en))
  | k + 1 => nzC (cop .sub .f32 (cop .sub .f32 (cn .f32 (xs.getD (k + 1) 0)) (stE en)) (cop .mul .f32 (cop .quo .f32 be (stM k)) be))
def stR (s : Nat → Option Nat) : Nat → Option Nat
  | 0 => s 0
  | k + 1 => cop .sub .f32 (s (k + 1)) (cop .mul .f32 (cop .quo .f32 be (stM xs be en k)) (stR s k))
/-- behind j steps from the end -/
def stB (s : Nat → Option Nat) : Nat → Option Nat
  | 0 => some 0
  | j + 1 => cop .quo .f32 (cop .sub .f32 (stR xs be en s (xs.length - 1 - j)) (cop .mul .f32 be (stB s j))) (stM xs be en (xs.length - 1 - j))
def stP (s : Nat → Option Nat) (i : Nat) : Option Nat := stB xs be en s (xs.length - i)
def stQ (s : Nat → Option Nat) : Nat → Option Nat
  | 0 => some 0
  | k + 1 => cop .add .f32 (stQ s k) (cop .mul .f32 (stP xs be en s k) (stP xs be en s k))
def stS (s : Nat → Option Nat) (i : Nat) : Option Nat := cop .quo .f32 (stP xs be en s i) (rootC (stQ xs be en s xs.length))
def stF : Nat → Nat → Option Nat
  | 0 => fun _ => some 1065353216
  | r + 1 => stS xs be en (stF r)
def stL (r : Nat) : List (Option Nat) := (List.range xs.length).map (stF xs be en r)
end
theorem one_FE : FE .f32 1065353216 (some 1065353216) := ⟨by decide, by decide⟩

/-! copies -/
set_option maxHeartbeats 1000000 in
theorem slices_Clone (a : Option Addr) (c : Nat) (xs : List Nat) (w : World) (hs : Fs w a xs) (hne : xs ≠ []) (hl : xs.length ≤ 1048577) :
    Calls Try.prog 36 #[.slice a xs.length c] w (fun e w' => ∃ g cap, e = .returned (.slice (some ⟨g, 0, none⟩) xs.length cap) ∧ w.heap.size ≤ g ∧ Ow w' w.heap.size (.slice (some ⟨g, 0, none⟩) xs.length cap) xs ∧ Below w.heap.size w w') := by
  obtain ⟨b, off, rfl, hb, hc⟩ : ∃ b off, a = some ⟨b, off, none⟩ ∧ b < w.heap.size ∧ ∀ j, j < xs.length → w.cell? ⟨b, off + j, none⟩ = some (.float .f32 (xs.getD j 0)) := by
    rcases hs with q | q
    · exact absurd q hne
    · exact q
  have HS := Lib.hid (show Fs (w.alloc (.cells #[] 32)) (some ⟨b, off, none⟩) xs from Fs.below (.inr ⟨b, off, rfl, hb, hc⟩) ((Below.refl _ _).alloc (Nat.le_refl _) _))
  clear hs hc
  obtain ⟨v2, w2, hrun, hO, hG, hW⟩ := run_app_src (w.alloc (.cells #[] 32)) w.heap.size (.slice (some ⟨w.heap.size, 0, none⟩) 0 0) [] xs (some ⟨b, off, none⟩) c (Ow_empty w w.heap.size (Nat.le_refl _)) HS.out (fun q => absurd q hne) (by simp) (by simp; omega) 22
  have HO := Lib.hid (And.intro hO hG)
  clear hO hG hW
  have q22 : ∀ (w : World) (a : Option Addr) (n c n' c' : Nat), (binOp .eql 22 (.slice a n c) (.slice none n' c')).run Try.prog w = .ok (.bool a.isNone) w := fun w a n c n' c' => Lib.run_eql_slice_nil w _ _ a n c n' c' Try.underlying22
  go_enter Try.func36, Try.ntmps36
  go_wp2_with (at_builtin; refine Lib.wpList_append_run _ rfl (.tmp 5) (.tmp 6) 22 22 rfl _ _ rfl rfl _ _ hrun ?_)
  go_ret
  obtain ⟨g, cap, rfl⟩ : ∃ g cap, v2 = .slice (some ⟨g, 0, none⟩) xs.length cap := by
    obtain ⟨a2, cap2, e, _, hg⟩ := HO.out.1.Fs
    obtain ⟨g, rfl, _⟩ := hg (by simpa using hne)
    exact ⟨g, cap2, by simpa using e⟩
  refine ⟨g, cap, rfl, (HO.out.1.lt rfl).1, by simpa using HO.out.1, ?_⟩
  exact ((Below.refl _ _).alloc (Nat.le_refl _) _).grown HO.out.2 (by simp) (fun k hk => by simp [Value.ownBlock] at hk; omega)

theorem slices_Clone_rg (g n cap : Nat) (f : Nat → Option Nat) (w : World) (h : Rg w g n cap f) (h0 : 0 < n) (hn : n ≤ 1048577) :
    Calls Try.prog 36 #[.slice (some ⟨g, 0, none⟩) n cap] w (fun e w' => ∃ g2 cap2, e = .returned (.slice (some ⟨g2, 0, none⟩) n cap2) ∧ w.heap.size ≤ g2 ∧ Rg w' g2 n cap2 f ∧ Below w.heap.size w w') := by
  obtain ⟨ys, rfl, hO, hF⟩ := h
  obtain ⟨a2, c2, e, hFs, _⟩ := hO.Fs
  injection e with e1 e2 e3
  refine (slices_Clone (some ⟨g, 0, none⟩) cap ys w (by rw [e1]; exact hFs) (by intro q; rw [q] at h0; simp at h0) hn).mono ?_
  rintro e' w' ⟨g2, cap2, rfl, hg, hO2, hB⟩
  exact ⟨g2, cap2, rfl, hg, ⟨ys, rfl, hO2.base (fun k hk => by simp [Value.ownBlock] at hk; omega), hF⟩, hB⟩

/-- f, but c at k -/
def put (f : Nat → Option Nat) (k : Nat) (c : Option Nat) (i : Nat) : Option Nat := if i = k then c else f i
theorem put_put (f : Nat → Option Nat) (k : Nat) (c d : Option Nat) : put (put f k c) k d = put f k d := by
  funext i
  unfold put
  by_cases h : i = k
  · rw [if_pos h, if_pos h]
  · rw [if_neg h, if_neg h, if_neg h]
theorem put_at (f : Nat → Option Nat) (k : Nat) (c : Option Nat) : put f k c k = c := if_pos rfl
theorem put_no {f : Nat → Option Nat} {k i : Nat} {c : Option Nat} (h : i ≠ k) : put f k c i = f i := if_neg h
/-- the three slices of a round: the state, the middles, the right sides -/
def StA (w wx : World) (gm gr n cr : Nat) (fm fr fs : Nat → Option Nat) : Prop :=
  w.heap.size < gm ∧ w.heap.size < gr ∧ gm ≠ gr ∧ Rg wx gm n n fm ∧ Rg wx gr n cr fr ∧ Rg wx w.heap.size n n fs ∧ Below w.heap.size w wx
section
variable {w wx : World} {gm gr n cr : Nat} {fm fr fs : Nat → Option Nat} {j x : Nat} {c : Option Nat}
theorem StA.drewN (h : StA w wx gm gr n cr fm fr fs) (k : Nat) : StA w (wx.drewN k) gm gr n cr fm fr fs := ⟨h.1, h.2.1, h.2.2.1, h.2.2.2.1, h.2.2.2.2.1, h.2.2.2.2.2.1, below_drewN' h.2.2.2.2.2.2 k⟩
theorem StA.atM (h : StA w wx gm gr n cr fm fr fs) (hj : j < n) : ∃ x, wx.cell? ⟨gm, j, none⟩ = some (.float .f32 x) ∧ FE .f32 x (fm j) ∧ wx.frozen? ⟨gm, j, none⟩ = false := h.2.2.2.1.at hj
theorem StA.atR (h : StA w wx gm gr n cr fm fr fs) (hj : j < n) : ∃ x, wx.cell? ⟨gr, j, none⟩ = some (.float .f32 x) ∧ FE .f32 x (fr j) ∧ wx.frozen? ⟨gr, j, none⟩ = false := h.2.2.2.2.1.at hj
theorem StA.atS (h : StA w wx gm gr n cr fm fr fs) (hj : j < n) : ∃ x, wx.cell? ⟨w.heap.size, j, none⟩ = some (.float .f32 x) ∧ FE .f32 x (fs j) ∧ wx.frozen? ⟨w.heap.size, j, none⟩ = false := h.2.2.2.2.2.1.at hj
theorem StA.setM (h : StA w wx gm gr n cr fm fr fs) (hj : j < n) (hx : FE .f32 x c) : StA w (wx.setCell ⟨gm, j, none⟩ (.float .f32 x)) gm gr n cr (put fm j c) fr fs :=
  ⟨h.1, h.2.1, h.2.2.1, h.2.2.2.1.set hj hx, h.2.2.2.2.1.other h.2.2.1 _ _, h.2.2.2.2.2.1.other (by have := h.1; omega) _ _, h.2.2.2.2.2.2.setCell (Nat.le_of_lt h.1) _⟩
theorem StA.setR (h : StA w wx gm gr n cr fm fr fs) (hj : j < n) (hx : FE .f32 x c) : StA w (wx.setCell ⟨gr, j, none⟩ (.float .f32 x)) gm gr n cr fm (put fr j c) fs :=
  ⟨h.1, h.2.1, h.2.2.1, h.2.2.2.1.other (fun q => h.2.2.1 q.symm) _ _, h.2.2.2.2.1.set hj hx, h.2.2.2.2.2.1.other (by have := h.2.1; omega) _ _, h.2.2.2.2.2.2.setCell (Nat.le_of_lt h.2.1) _⟩
theorem StA.setS (h : StA w wx gm gr n cr fm fr fs) (hj : j < n) (hx : FE .f32 x c) : StA w (wx.setCell ⟨w.heap.size, j, none⟩ (.float .f32 x)) gm gr n cr fm fr (put fs j c) :=
  ⟨h.1, h.2.1, h.2.2.1, h.2.2.2.1.other (by have := h.1; omega) _ _, h.2.2.2.2.1.other (by have := h.2.1; omega) _ _, h.2.2.2.2.2.1.set hj hx, h.2.2.2.2.2.2.setCell (Nat.le_refl _) _⟩
theorem StA.congr (h : StA w wx gm gr n cr fm fr fs) {fm' fr' fs' : Nat → Option Nat} (h1 : ∀ j, j < n → fm j = fm' j) (h2 : ∀ j, j < n → fr j = fr' j) (h3 : ∀ j, j < n → fs j = fs' j) : StA w wx gm gr n cr fm' fr' fs' :=
  ⟨h.1, h.2.1, h.2.2.1, h.2.2.2.1.congr h1, h.2.2.2.2.1.congr h2, h.2.2.2.2.2.1.congr h3, h.2.2.2.2.2.2⟩
theorem StA.below (h : StA w wx gm gr n cr fm fr fs) : Below w.heap.size w wx := h.2.2.2.2.2.2
end
theorem FE.word {r : Nat} {c : Option Nat} (h : FE .f32 r c) : r < 4294967296 := by have := h.lt; rw [f32_sign] at this; omega
theorem undrewB {w w' : World} (h : Below w.drew.heap.size w.drew w') : Below w.heap.size w w' := ⟨h.os, h.tape, h.output, h.size, h.block⟩
theorem st_way1 {w wr w4 : World} {g4 c4 n : Nat} {f : Nat → Option Nat} (hn : n ≤ 1048576) (hG : Rg wr w.heap.size n n f) (hB : Below w.heap.size w wr) (hg : (wr.alloc (.cells (Array.replicate n (.float .f32 0)) 32)).drew.heap.size ≤ g4)
    (hR : Rg w4 g4 n c4 f) (hB4 : Below (wr.alloc (.cells (Array.replicate n (.float .f32 0)) 32)).drew.heap.size (wr.alloc (.cells (Array.replicate n (.float .f32 0)) 32)).drew w4) : StA w w4 wr.heap.size g4 n c4 (fun _ => some 0) f f := by
  have h0 := hG.lt
  have h1 : wr.heap.size + 1 ≤ g4 := by simpa using hg
  have hB5 := undrewB hB4
  have hz : (wr.alloc (.cells (Array.replicate n (.float .f32 0)) 32)).heap.size = wr.heap.size + 1 := by simp
  refine ⟨h0, by omega, by omega, (Rg_made' wr n hn).below hB5 (by omega), hR, (hG.alloc _).below hB5 (by omega), (hB.alloc (by omega) _).trans (hB5.mono (by omega))⟩
theorem st_way2 {w wr w4 : World} {g4 c4 n : Nat} {f : Nat → Option Nat} (hn : n ≤ 1048576) (hG : Rg wr w.heap.size n n f) (hB : Below w.heap.size w wr) (hg : wr.drew.heap.size ≤ g4)
    (hR : Rg w4 g4 n c4 f) (hB4 : Below wr.drew.heap.size wr.drew w4) : StA w (w4.alloc (.cells (Array.replicate n (.float .f32 0)) 32)) w4.heap.size g4 n c4 (fun _ => some 0) f f := by
  have h0 := hG.lt
  have h1 : wr.heap.size ≤ g4 := hg
  have h2 := hR.lt
  have hB5 := undrewB hB4
  have hz := hB5.size
  refine ⟨by omega, by omega, by omega, Rg_made' w4 n hn, hR.alloc _, (hG.below hB5 h0).alloc _, (hB.trans (hB5.mono (by omega))).alloc (by omega) _⟩

/-- the numbers so far of one kind, the others of another -/
def upto (k : Nat) (f g : Nat → Option Nat) (i : Nat) : Option Nat := if i < k then f i else g i
theorem upto_set {k : Nat} {f g : Nat → Option Nat} {c : Option Nat} (hc : c = f k) (j : Nat) : (if j = k then c else upto k f g j) = upto (k + 1) f g j := by
  unfold upto
  by_cases h : j = k
  · subst h; rw [if_pos rfl, if_pos (by omega), hc]
  · rw [if_neg h]
    by_cases h2 : j < k
    · rw [if_pos h2, if_pos (by omega)]
    · rw [if_neg h2, if_neg (by omega)]
theorem upto_put {k : Nat} {f g : Nat → Option Nat} {c : Option Nat} (hc : c = f k) : put (upto k f g) k c = upto (k + 1) f g := funext fun j => upto_set hc j
theorem st_mid (xs : List Nat) (be en : Option Nat) {k : Nat} (hk : 0 < k) : stM xs be en k = nzC (cop .sub .f32 (cop .sub .f32 (cn .f32 (xs.getD k 0)) (stE en)) (cop .mul .f32 (cop .quo .f32 be (stM xs be en (k - 1))) be)) := by
  obtain ⟨j, rfl⟩ : ∃ j, k = j + 1 := ⟨k - 1, by omega⟩
  rfl
theorem st_rgt (xs : List Nat) (be en : Option Nat) (s : Nat → Option Nat) {k : Nat} (hk : 0 < k) : stR xs be en s k = cop .sub .f32 (s k) (cop .mul .f32 (cop .quo .f32 be (stM xs be en (k - 1))) (stR xs be en s (k - 1))) := by
  obtain ⟨j, rfl⟩ : ∃ j, k = j + 1 := ⟨k - 1, by omega⟩
  rfl
theorem st_back (xs : List Nat) (be en : Option Nat) (s : Nat → Option Nat) {t : Nat} (h0 : 0 < t) (ht : t ≤ xs.length) : stB xs be en s (xs.length - (t - 1)) = cop .quo .f32 (cop .sub .f32 (stR xs be en s (t - 1)) (cop .mul .f32 be (stB xs be en s (xs.length - t)))) (stM xs be en (t - 1)) := by
  rw [show xs.length - (t - 1) = xs.length - t + 1 by omega]
  show cop .quo .f32 (cop .sub .f32 (stR xs be en s (xs.length - 1 - (xs.length - t))) _) (stM xs be en (xs.length - 1 - (xs.length - t))) = _
  rw [show xs.length - 1 - (xs.length - t) = t - 1 by omega]
theorem st_down {f g : Nat → Option Nat} {t : Nat} {c : Option Nat} (h0 : 0 < t) (hc : c = g (t - 1)) (j : Nat) : put (upto t f g) (t - 1) c j = upto (t - 1) f g j := by
  unfold put upto
  by_cases h : j = t - 1
  · subst h; rw [if_pos rfl, if_neg (by omega), hc]
  · rw [if_neg h]
    by_cases h2 : j < t
    · rw [if_pos h2, if_pos (by omega)]
    · rw [if_neg h2, if_neg (by omega)]
theorem vint {a b : Int} (h : a = b) : Value.int .i64 a = Value.int .i64 b := by rw [h]
theorem st_list {n : Nat} {ys : List Nat} {f : Nat → Option Nat} (hl : ys.length = n) (hF : ∀ j, j < n → FE .f32 (ys.getD j 0) (f j)) : ys.map (cn .f32) = (List.range n).map f := by
  apply List.ext_getElem
  · simp [hl]
  · intro i h1 h2
    have hi : i < ys.length := by simpa using h1
    have := (hF i (by omega)).out
    rw [List.getD_eq_getElem?_getD, List.getElem?_eq_getElem hi] at this
    simpa using this
theorem st_right0 {xs : List Nat} {be en : Option Nat} {s : Nat → Option Nat} {k : Nat} (hk : k = 0) (j : Nat) : upto k (stR xs be en s) s j = upto (k + 1) (stR xs be en s) s j := by
  subst hk
  unfold upto
  rw [if_neg (by omega)]
  by_cases h : j = 0
  · subst h; rw [if_pos (by omega)]; rfl
  · rw [if_neg (by omega)]
theorem upto_all {k j : Nat} {f g : Nat → Option Nat} (h : j < k) : upto k f g j = f j := by unfold upto; rw [if_pos h]
theorem upto_no {k j : Nat} {f g : Nat → Option Nat} (h : k ≤ j) : upto k f g j = g j := by unfold upto; rw [if_neg (by omega)]

end Go.Proofs.Ytkdojogjalkddaa
