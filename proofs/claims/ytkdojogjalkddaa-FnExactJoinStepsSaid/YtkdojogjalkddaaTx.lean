/- Marks laid into steps, and held. -/
import Derived.Test.YtkdojogjalkddaaTq
import Derived.Test.YtkdojogjalkddaaSz
namespace Go.Proofs.Ytkdojogjalkddaa
set_option maxRecDepth 100000
set_option linter.unusedVariables false
open Go.RowKit

/-- nothing has turned but blocks from lo to hi, and new ones -/
def Ch (lo hi : Nat) (w w' : World) : Prop := w'.os = w.os ∧ w'.tape = w.tape ∧ w'.output = w.output ∧ w.heap.size ≤ w'.heap.size ∧ ∀ k, k < w.heap.size → k < lo ∨ hi ≤ k → w'.heap[k]? = w.heap[k]?
theorem Ch.refl (lo hi : Nat) (w : World) : Ch lo hi w w := ⟨rfl, rfl, rfl, Nat.le_refl _, fun _ _ _ => rfl⟩
theorem Ch.trans {lo hi : Nat} {w w' w'' : World} (h : Ch lo hi w w') (h' : Ch lo hi w' w'') : Ch lo hi w w'' :=
  ⟨h'.1.trans h.1, h'.2.1.trans h.2.1, h'.2.2.1.trans h.2.2.1, Nat.le_trans h.2.2.2.1 h'.2.2.2.1, fun k hk hr => (h'.2.2.2.2 k (Nat.lt_of_lt_of_le hk h.2.2.2.1) hr).trans (h.2.2.2.2 k hk hr)⟩
theorem Below.ch {w w' : World} (h : Below w.heap.size w w') (lo hi : Nat) : Ch lo hi w w' := ⟨h.os, h.tape, h.output, h.size, fun k hk _ => h.block k hk⟩
theorem grown_ch {w w' : World} {row : Option Nat} {lo hi : Nat} (h : w.grownBy w' row) (hr : ∀ k, row = some k → lo ≤ k ∧ k < hi) : Ch lo hi w w' :=
  ⟨h.os, h.tape, h.output, h.size, fun k hk hk2 => h.block k hk fun q => by have := hr k q.symm; omega⟩
theorem Ch.below {lo hi B : Nat} {w0 w w' : World} (h : Ch lo hi w w') (h0 : Below B w0 w) (hl : B ≤ lo) (hB : B ≤ w.heap.size) : Below B w0 w' :=
  h0.trans ⟨h.1, h.2.1, h.2.2.1, h.2.2.2.1, fun k hk => h.2.2.2.2 k (by omega) (.inl (by omega))⟩
theorem Ch.bk {lo hi p : Nat} {w w' : World} {u v : Value} (h : Ch lo hi w w') (hb : Bk w p u v) (hp : p < lo ∨ hi ≤ p) : Bk w' p u v := by
  have e := h.2.2.2.2 p hb.2.2 hp
  exact ⟨(World.cell?_of_block (a := ⟨p, 0, none⟩) e).trans hb.1, (World.cell?_of_block (a := ⟨p, 1, none⟩) e).trans hb.2.1, Nat.lt_of_lt_of_le hb.2.2 h.2.2.2.1⟩

/-- two slices of the call's own in blocks from lo to hi, apart -/
def Sg (w : World) (lo hi : Nat) (ve : Value) (es : List Nat) (vh : Value) (hs : List Nat) : Prop :=
  Ow w lo ve es ∧ Ow w lo vh hs ∧ (∀ k, ve.ownBlock = some k → k < hi) ∧ (∀ k, vh.ownBlock = some k → k < hi) ∧ (∀ k, ve.ownBlock = some k → vh.ownBlock ≠ some k) ∧ hi ≤ w.heap.size
section
variable {w w' : World} {lo hi lo' hi' : Nat} {ve vh : Value} {es hs : List Nat}
theorem Ow.ch {v : Value} {xs : List Nat} (h : Ow w lo v xs) (hh : ∀ k, v.ownBlock = some k → k < hi) (hc : Ch lo' hi' w w') (hd : hi ≤ lo' ∨ hi' ≤ lo) : Ow w' lo v xs := by
  refine ⟨h.1, ?_⟩
  rcases h.2 with q | ⟨g, c, cur, e, h1, h2, r⟩
  · exact .inl q
  · have h3 := hh g (by rw [e]; rfl)
    exact .inr ⟨g, c, cur, e, h1, by rw [hc.2.2.2.2 g (Array.getElem?_eq_some_iff.1 h2).1 (by omega)]; exact h2, r⟩
theorem Sg.ch (h : Sg w lo hi ve es vh hs) (hc : Ch lo' hi' w w') (hd : hi ≤ lo' ∨ hi' ≤ lo) : Sg w' lo hi ve es vh hs :=
  ⟨h.1.ch h.2.2.1 hc hd, h.2.1.ch h.2.2.2.1 hc hd, h.2.2.1, h.2.2.2.1, h.2.2.2.2.1, Nat.le_trans h.2.2.2.2.2 hc.2.2.2.1⟩
theorem Sg.later (h : Sg w lo hi ve es vh hs) (hB : Below w.heap.size w w') : Sg w' lo hi ve es vh hs := h.ch (Below.ch hB hi hi) (.inl (Nat.le_refl _))
theorem Sg.drewN (h : Sg w lo hi ve es vh hs) (k : Nat) : Sg (w.drewN k) lo hi ve es vh hs := ⟨h.1.drewN k, h.2.1.drewN k, h.2.2.1, h.2.2.2.1, h.2.2.2.2.1, h.2.2.2.2.2⟩
theorem Sg.of (h : RetSt es hs true w (.returned (.tuple #[.agg #[ve, vh], .bool true])) w') : Sg w' w.heap.size w'.heap.size ve es vh hs := by
  obtain ⟨ve', vh', e, h1, h2, h3, h4⟩ := h
  cases e
  exact ⟨h1, h2, fun k hk => (h1.lt hk).2, fun k hk => (h2.lt hk).2, h3, Nat.le_refl _⟩
end

theorem mk_first {lo hi : Nat} {a b : Option Addr} {n m c d : Nat} {es hs zs : List Nat} {w w1 : World} (h : Sg w lo hi (.slice a n c) es (.slice b m d) hs)
    (hO : Ow w1 lo (.slice a n c) zs) (hG : (w.alloc (.cells #[.slice a n c, .slice b m d] 27)).grownBy w1 (Value.ownBlock (.slice a n c))) :
    Bk w1 w.heap.size (.slice a n c) (.slice b m d) ∧ Ow w1 lo (.slice a n c) zs ∧ Ow w1 lo (.slice b m d) hs ∧ Ch lo hi w w1 := by
  have hc : Ch lo hi (w.alloc (.cells #[.slice a n c, .slice b m d] 27)) w1 := grown_ch hG fun k hk => ⟨(h.1.lt hk).1, h.2.2.1 k hk⟩
  refine ⟨hc.bk (Bk.new w _ _ _) (.inr h.2.2.2.2.2), hO, (h.2.1.alloc _).kept hG ?_, (Below.ch (below1 w _) lo hi).trans hc⟩
  cases e : Value.ownBlock (.slice b m d) with
  | none => exact .inl rfl
  | some k => exact .inr fun q => h.2.2.2.2.1 k q.symm e
theorem mk_second {lo hi : Nat} {a b : Option Addr} {n m c d : Nat} {es hs zs us : List Nat} {w w1 w2 : World} (h : Sg w lo hi (.slice a n c) es (.slice b m d) hs)
    (hO1 : Ow w1 lo (.slice a n c) zs) (hc : Ch lo hi w w1) (hO : Ow w2 lo (.slice b m d) us) (hG : w1.grownBy w2 (Value.ownBlock (.slice b m d))) : Sg w2 lo hi (.slice a n c) zs (.slice b m d) us ∧ Ch lo hi w w2 := by
  have hc2 : Ch lo hi w1 w2 := grown_ch hG fun k hk => ⟨(h.2.1.lt hk).1, h.2.2.2.1 k hk⟩
  have hc3 := hc.trans hc2
  refine ⟨⟨hO1.kept hG ?_, hO, h.2.2.1, h.2.2.2.1, h.2.2.2.2.1, Nat.le_trans h.2.2.2.2.2 hc3.2.2.2.1⟩, hc3⟩
  cases e : Value.ownBlock (.slice a n c) with
  | none => exact .inl rfl
  | some k => exact .inr fun q => h.2.2.2.2.1 k e q.symm
set_option maxHeartbeats 2000000 in
theorem laws_markSteps (lo hi : Nat) (a b : Option Addr) (c d : Nat) (k0 : Int) (es hs : List Nat) (w : World) (h : Sg w lo hi (.slice a es.length c) es (.slice b hs.length d) hs) (hk0 : 0 ≤ k0) (hk1 : k0 ≤ 1048577) (hl : es.length ≤ 1048576) (hl2 : hs.length ≤ 1048576) :
    Calls Try.prog 20 #[.agg #[.slice a es.length c, .slice b hs.length d], .int .i64 k0] w (fun e w' => e = .returned (.int .i64 (k0 + es.length + hs.length)) ∧ Sg w' lo hi (.slice a es.length c) (marks k0 es.length) (.slice b hs.length d) (marks (k0 + es.length) hs.length) ∧ Ch lo hi w w') := by
  have H := Lib.hid h
  have K0 := Lib.hid (Bk.new w (.slice a es.length c) (.slice b hs.length d) 27)
  have C0 := Lib.hid (Below.ch (below1 w (.cells #[.slice a es.length c, .slice b hs.length d] 27)) lo hi)
  clear h
  go_enter Try.func20, Try.ntmps20
  go_wp2_with fail
  refine (laws_mark2 lo a c k0 es _ (H.out.1.alloc _) hk0 (by omega) (by omega)).mono ?_
  rintro _ w1 ⟨rfl, hO1, hG1⟩
  have R1 := Lib.hid (mk_first H.out hO1 hG1)
  clear hO1 hG1
  obtain ⟨k1, k2, k3⟩ := R1.out.1
  go_wp2_with fail
  refine (laws_mark2 lo b d (k0 + es.length) hs _ R1.out.2.2.1 (by omega) (by omega) (by omega)).mono ?_
  rintro _ w2 ⟨rfl, hO2, hG2⟩
  have R2 := Lib.hid (mk_second H.out R1.out.2.1 R1.out.2.2.2 hO2 hG2)
  clear hO2 hG2
  go_wp2
  go_ret
  exact ⟨rfl, R2.out⟩

set_option maxHeartbeats 2000000 in
theorem laws_heldSteps (a b : Option Addr) (c d : Nat) (k0 : Int) (n m : Nat) (w : World) (hs : Fs w a (marks k0 n)) (ht : Fs w b (marks (k0 + n) m)) (hk0 : 0 ≤ k0) (hk1 : k0 ≤ 65536) (hl : n ≤ 65536) (hl2 : m ≤ 65536) :
    Calls Try.prog 21 #[.agg #[.slice a n c, .slice b m d], .int .i64 k0] w (RetVB (.int .i64 (k0 + n + m)) w) := by
  have H := Lib.hid (And.intro (hs.below (below1 w (.cells #[.slice a n c, .slice b m d] 27))) (ht.below (below1 w (.cells #[.slice a n c, .slice b m d] 27))))
  clear hs ht
  go_enter Try.func21, Try.ntmps21
  go_wp2_with fail
  refine (laws_heldFloat32S a c k0 n _ H.out.1 hk0 (by omega) (by omega)).mono ?_
  rintro _ _ ⟨n1, rfl, rfl⟩
  have p1 : 0 ≤ k0 + (n : Int) := by omega
  go_wp2_with fail
  refine (laws_heldFloat32S b d (k0 + n) m _ (H.out.2.drewN _) (by omega) (by omega) (by omega)).mono ?_
  rintro _ _ ⟨n2, rfl, rfl⟩
  have p2 : 0 ≤ k0 + (n : Int) + (m : Int) := by omega
  go_wp2
  go_ret
  exact ⟨rfl, below_drewN' (below1 _ _) _⟩
end Go.Proofs.Ytkdojogjalkddaa
