/- Products of two eighths in 32 bits, and tenths of eighths, by the quick operations. -/
import Derived.Test.YtlkhkpaggkpieaaXt
namespace Go.Proofs.Ytlkhkpaggkpieaa
set_option maxRecDepth 100000
set_option linter.unusedVariables false
def hE (x : Nat) : Nat := Nat.shiftRight x 23
def hM (x : Nat) : Nat := Nat.add 8388608 (Nat.mod x 8388608)
/-- a word of a normal number greater than 0 -/
def okh (x : Nat) : Bool := Nat.ble 8388608 x && Nat.blt x 2139095040
theorem okh_parts {x : Nat} (h : okh x = true) : 8388608 ≤ x ∧ x < 2139095040 := by
  unfold okh at h
  simp only [Bool.and_eq_true] at h
  exact ⟨Nat.le_of_ble_eq_true h.1, blt_lt h.2⟩
theorem pow23 : (2 : Nat) ^ 23 = 8388608 := by decide
theorem hE_eq (x : Nat) : hE x = x / 8388608 := by unfold hE; rw [nshr, Nat.shiftRight_eq_div_pow, pow23]
theorem hM_eq (x : Nat) : hM x = 8388608 + x % 8388608 := by unfold hM; rw [nadd, nmod]
theorem s_sign : Ieee.single.signWeight = 2147483648 := rfl
theorem s_binade : Ieee.single.binade = 8388608 := rfl
theorem s_inf : Ieee.single.infRung = 2139095040 := rfl
theorem s_least : Ieee.single.leastPlace = -149 := rfl
theorem s_frac : Ieee.single.fractionBits = 23 := rfl
theorem read_okh {x : Nat} (h : okh x = true) : Ieee.single.read x = .number false (hM x) ((hE x : Int) - 150) := by
  obtain ⟨h1, h2⟩ := okh_parts h
  have e1 : x % 2147483648 = x := Nat.mod_eq_of_lt (by omega)
  have e3 : ¬ x < 8388608 := by omega
  have e5 : (x / 2147483648 % 2 == 1) = false := by rw [beq_eq_false_iff_ne]; omega
  have e6 : (-149 : Int) + ((x / 8388608 - 1 : Nat) : Int) = (hE x : Int) - 150 := by rw [hE_eq]; omega
  rw [← s_sign] at e1 e5
  rw [← s_binade] at e3 e6
  rw [← s_inf] at h2
  rw [← s_least] at e6
  unfold Ieee.Format.read
  dsimp only
  rw [e1, if_neg e3, if_pos h2, e5, e6, hM_eq, s_binade]
theorem hM_range (x : Nat) : 2 ^ 23 ≤ hM x ∧ hM x < 2 ^ 24 := by
  rw [hM_eq]
  have e1 := pow23
  have e2 : (2 : Nat) ^ 24 = 16777216 := by decide
  omega
def hnear (mag B L : Nat) : Nat :=
  Nat.add (Nat.mul (Nat.sub (Nat.add B L) 24) 8388608) (bif Nat.ble 23 L then fcut mag (Nat.sub L 23) else Nat.shiftLeft mag (Nat.sub 23 L))
theorem hnear_is (neg : Bool) (mag B L : Nat) (h1 : 2 ^ L ≤ mag) (h2 : mag < 2 ^ (L + 1)) (h3 : 24 ≤ B + L) (hi : hnear mag B L < 2139095040) :
    Ieee.single.nearest neg mag ((B : Int) - 150) = Ieee.single.word neg (hnear mag B L) := by
  have hl := log2_of h1 h2
  have h0 : ¬ mag = 0 := by have := Nat.two_pow_pos L; omega
  unfold Ieee.Format.nearest
  rw [if_neg h0, hl]
  dsimp only
  have last : max ((B : Int) - 150 + (L : Int) - ((Ieee.single.fractionBits : Nat) : Int)) Ieee.single.leastPlace = (B : Int) + L - 173 := by rw [s_frac, s_least]; omega
  rw [last]
  have p1 : ((B : Int) - 150 - ((B : Int) + L - 173)).toNat = 23 - L := by omega
  have p2 : ((B : Int) + L - 173 - ((B : Int) - 150)).toNat = L - 23 := by omega
  have p3 : ((B : Int) + L - 173 - Ieee.single.leastPlace).toNat = B + L - 24 := by rw [s_least]; omega
  rw [p1, p2, p3]
  have key : (B + L - 24) * Ieee.single.binade + Ieee.Toward.even.cut neg (mag <<< (23 - L)) (L - 23) = hnear mag B L := by
    unfold hnear
    simp only [nadd, nmul, nsub, nshl]
    rw [s_binade]
    congr 1
    by_cases c : 23 ≤ L
    · rw [show 23 - L = 0 by omega, Nat.shiftLeft_zero, fcut_is neg mag (L - 23) (by omega), Nat.ble_eq_true_of_le c, cond_true]
    · rw [show L - 23 = 0 by omega, cut_none]
      cases hb : Nat.ble 23 L with
      | true => exact absurd (Nat.le_of_ble_eq_true hb) c
      | false => rw [cond_false]
  rw [key, Nat.min_eq_left (by rw [s_inf]; omega)]
def hmulK (x y : Nat) (k : Nat → Bool) : Bool :=
  bif (okh x && okh y) && Nat.ble 150 (Nat.add (hE x) (hE y)) then
    force (Nat.mul (hM x) (hM y)) fun mag => force (Nat.sub (Nat.add (hE x) (hE y)) 150) fun B => force (bif Nat.ble 140737488355328 mag then 47 else 46) fun L =>
      bif (Nat.ble (Nat.shiftLeft 1 L) mag && Nat.blt mag (Nat.shiftLeft 2 L)) && Nat.ble 24 (Nat.add B L) then
        force (hnear mag B L) fun r => bif okh r then k r else false
      else false
  else false
theorem hmulK_is {x y : Nat} {k : Nat → Bool} (h : hmulK x y k = true) : ∃ z, cop .mul .f32 (some x) (some y) = some z ∧ okh z = true ∧ k z = true := by
  unfold hmulK at h
  obtain ⟨hb, h⟩ := bif_true h
  simp only [Bool.and_eq_true] at hb
  obtain ⟨⟨hx, hy⟩, he⟩ := hb
  have he : 150 ≤ hE x + hE y := Nat.le_of_ble_eq_true he
  simp only [force_is, nmul, nadd, nsub, nshl] at h
  generalize (bif Nat.ble 140737488355328 (hM x * hM y) then 47 else 46) = L at h
  obtain ⟨hc, h⟩ := bif_true h
  simp only [Bool.and_eq_true] at hc
  obtain ⟨⟨h1, h2⟩, h3⟩ := hc
  obtain ⟨ho, h⟩ := bif_true h
  refine ⟨_, ?_, ho, h⟩
  show Ieee.single.mul x y = _
  have e1 : 2 ^ L ≤ hM x * hM y := by
    have := Nat.le_of_ble_eq_true h1
    rwa [Nat.one_shiftLeft] at this
  have e2 : hM x * hM y < 2 ^ (L + 1) := by
    have := blt_lt h2
    rw [Nat.shiftLeft_eq] at this
    rw [Nat.pow_succ]; omega
  have e3 := hnear_is (false ^^ false) (hM x * hM y) (hE x + hE y - 150) L e1 e2 (Nat.le_of_ble_eq_true h3) (okh_parts ho).2
  unfold Ieee.Format.mul Ieee.Datum.product
  rw [read_okh hx, read_okh hy]
  dsimp only
  rw [Option.map_some, Ieee.Format.write, show ((hE x : Int) - 150 + ((hE y : Int) - 150)) = ((hE x + hE y - 150 : Nat) : Int) - 150 by omega, e3]
  rfl
/-- from 32 to 64 bits -/
def widK (z : Nat) (k : Nat → Bool) : Bool := bif okh z then force (Nat.add (Nat.mul (Nat.add (hE z) 896) 4503599627370496) (Nat.shiftLeft (Nat.mod z 8388608) 29)) k else false
theorem pow29 : (2 : Nat) ^ 29 = 536870912 := by decide
theorem widK_is {z : Nat} {k : Nat → Bool} (h : widK z k = true) : ∃ R, cconv .f32 .f64 (some z) = some R ∧ R < 9223372036854775808 ∧ k R = true := by
  unfold widK at h
  obtain ⟨hz, h⟩ := bif_true h
  rw [force_is] at h
  obtain ⟨z1, z2⟩ := okh_parts hz
  have hv : Nat.add (Nat.mul (Nat.add (hE z) 896) 4503599627370496) (Nat.shiftLeft (Nat.mod z 8388608) 29) = (z / 8388608 + 896) * 4503599627370496 + (z % 8388608) * 536870912 := by
    rw [hE_eq, nadd, nadd, nmul, nshl, nmod, Nat.shiftLeft_eq, pow29]
  rw [hv] at h
  refine ⟨_, ?_, ?_, h⟩
  · have hd : FloatKind.f32.decode z = _ := read_okh hz
    have hc : cconv .f32 .f64 (some z) = some (Ieee.double.nearest false (hM z) ((hE z : Int) - 150)) := by
      simp only [cconv]
      rw [hd]; rfl
    rw [hc]
    obtain ⟨m1, m2⟩ := hM_range z
    have hf : fnear (hM z) (hE z + 925) 23 = (z / 8388608 + 896) * 4503599627370496 + (z % 8388608) * 536870912 := by
      unfold fnear
      simp only [nadd, nmul, nsub, nshl]
      rw [show Nat.ble 52 23 = false from rfl, cond_false, Nat.shiftLeft_eq, hE_eq, hM_eq, show 52 - 23 = 29 from rfl, pow29]; omega
    have := near_is false (hM z) (hE z + 925) 23 m1 m2 (by omega) (by rw [hf]; omega)
    rw [show ((hE z : Int) - 150) = ((hE z + 925 : Nat) : Int) - 1075 by omega, this, hf]
    rfl
  · omega
theorem cop_comm (k : FloatKind) (a b : Option Nat) : cop .mul k a b = cop .mul k b a := by
  cases a with
  | none => cases b <;> rfl
  | some x =>
    cases b with
    | none => rfl
    | some y =>
      show k.format.mul x y = k.format.mul y x
      unfold Ieee.Format.mul
      congr 1
      unfold Ieee.Datum.product
      cases k.format.read x <;> cases k.format.read y <;> simp [Bool.xor_comm, Nat.mul_comm, Int.add_comm]
def e8 (i : Nat) : Nat := [1040187392, 1048576000, 1052770304, 1056964608, 1059061760, 1061158912, 1063256064, 1065353216, 1066401792, 1067450368, 1068498944, 1069547520, 1070596096, 1071644672, 1072693248, 1073741824, 1074266112, 1074790400, 1075314688, 1075838976, 1076363264, 1076887552, 1077411840, 1077936128, 1078460416, 1078984704, 1079508992, 1080033280, 1080557568, 1081081856, 1081606144, 1082130432, 1082392576, 1082654720, 1082916864, 1083179008, 1083441152, 1083703296, 1083965440, 1084227584, 1084489728, 1084751872, 1085014016, 1085276160, 1085538304, 1085800448, 1086062592, 1086324736, 1086586880, 1086849024, 1087111168, 1087373312, 1087635456, 1087897600, 1088159744, 1088421888, 1088684032, 1088946176, 1089208320, 1089470464, 1089732608, 1089994752, 1090256896, 1090519040, 1090650112, 1090781184, 1090912256, 1091043328, 1091174400, 1091305472, 1091436544, 1091567616, 1091698688, 1091829760, 1091960832, 1092091904, 1092222976, 1092354048, 1092485120, 1092616192, 1092747264, 1092878336, 1093009408, 1093140480, 1093271552, 1093402624, 1093533696, 1093664768, 1093795840, 1093926912, 1094057984, 1094189056, 1094320128, 1094451200, 1094582272, 1094713344, 1094844416, 1094975488, 1095106560, 1095237632, 1095368704, 1095499776, 1095630848, 1095761920, 1095892992, 1096024064, 1096155136, 1096286208, 1096417280, 1096548352, 1096679424, 1096810496, 1096941568, 1097072640, 1097203712, 1097334784, 1097465856, 1097596928, 1097728000, 1097859072, 1097990144, 1098121216, 1098252288, 1098383360, 1098514432, 1098645504, 1098776576, 1098907648, 1098973184, 1099038720, 1099104256, 1099169792, 1099235328, 1099300864, 1099366400, 1099431936, 1099497472, 1099563008, 1099628544, 1099694080, 1099759616, 1099825152, 1099890688, 1099956224, 1100021760, 1100087296, 1100152832, 1100218368, 1100283904, 1100349440, 1100414976, 1100480512, 1100546048, 1100611584, 1100677120, 1100742656, 1100808192, 1100873728, 1100939264, 1101004800, 1101070336, 1101135872, 1101201408, 1101266944, 1101332480, 1101398016, 1101463552, 1101529088, 1101594624, 1101660160, 1101725696, 1101791232, 1101856768, 1101922304, 1101987840, 1102053376, 1102118912, 1102184448, 1102249984, 1102315520, 1102381056, 1102446592, 1102512128, 1102577664, 1102643200, 1102708736, 1102774272, 1102839808, 1102905344, 1102970880, 1103036416, 1103101952, 1103167488, 1103233024, 1103298560, 1103364096, 1103429632, 1103495168, 1103560704, 1103626240].getD i 0
def tA (i : Nat) : Nat := [210, 240, 257, 270, 280, 288, 294, 300, 305, 310, 314, 318, 321, 324, 327, 330, 333, 335, 338, 340, 342, 344, 346, 348, 349, 351, 353, 354, 356, 357, 359, 360, 362, 363, 364, 365, 367, 368, 369, 370, 371, 372, 373, 374, 375, 376, 377, 378, 379, 380, 380, 381, 382, 383, 384, 385, 385, 386, 387, 388, 388, 389, 390, 390, 391, 392, 392, 393, 394, 394, 395, 395, 396, 397, 397, 398, 398, 399, 399, 400, 401, 401, 402, 402, 403, 403, 404, 404, 405, 405, 406, 406, 407, 407, 407, 408, 408, 409, 409, 410, 410, 411, 411, 411, 412, 412, 413, 413, 413, 414, 414, 415, 415, 415, 416, 416, 417, 417, 417, 418, 418, 418, 419, 419, 419, 420, 420, 420, 421, 421, 421, 422, 422, 422, 423, 423, 423, 424, 424, 424, 425, 425, 425, 426, 426, 426, 426, 427, 427, 427, 428, 428, 428, 428, 429, 429, 429, 430, 430, 430, 430, 431, 431, 431, 431, 432, 432, 432, 432, 433, 433, 433, 433, 434, 434, 434, 434, 435, 435, 435, 435, 436, 436, 436, 436, 437, 437, 437, 437, 438, 438, 438, 438, 438, 439, 439, 439, 439, 440, 440].getD i 0
theorem eighths8 : ∀ i : Fin 200, cop .quo .f32 (some (floatOfInt .f32 (1 + (i.val : Int)))) (some 1090519040) = some (e8 i.val) := by decide +kernel
theorem e8_ok : ∀ i : Fin 200, okh (e8 i.val) = true := by decide +kernel
def oneT (i : Nat) : Bool := force (e8 i) fun x => widK x fun R => tenK R fun s n => force (tA i) fun a => bif s then Nat.beq (Nat.add a n) 300 else Nat.beq a (Nat.add 300 n)
theorem ones : ∀ i : Fin 200, oneT i.val = true := by decide +kernel
def gap1 (a b n : Nat) (s : Bool) : Bool := bif s then Nat.ble (Nat.add (Nat.add a b) n) 601 && Nat.ble 599 (Nat.add (Nat.add a b) n) else Nat.ble (Nat.add a b) (Nat.add 601 n) && Nat.ble (Nat.add 599 n) (Nat.add a b)
def pairT (i j : Nat) : Bool := Nat.blt j i || force (e8 i) fun x => force (e8 j) fun y => hmulK x y fun z => widK z fun R => tenK R fun s n => force (tA i) fun a => force (tA j) fun b => gap1 a b n s
theorem ten_one (i : Nat) (hi : i < 200) : tenC (some (e8 i)) = (tA i : Int) - 300 := by
  have h := ones ⟨i, hi⟩
  unfold oneT at h
  simp only [force_is] at h
  obtain ⟨R, hR, hl, h⟩ := widK_is h
  obtain ⟨s, n, hs, h⟩ := tenK_is hl h
  simp only [tenC]
  rw [hR, Option.getD_some, hs]
  cases s with
  | false =>
    rw [cond_false] at h
    have h := Nat.eq_of_beq_eq_true h
    rw [nadd] at h
    simp only [Bool.false_eq_true, if_false]; omega
  | true =>
    rw [cond_true] at h
    have h := Nat.eq_of_beq_eq_true h
    rw [nadd] at h
    simp only [if_true]; omega
theorem ten_pair {i j : Nat} (hij : i ≤ j) (h : pairT i j = true) : ∃ z, cop .mul .f32 (some (e8 i)) (some (e8 j)) = some z ∧ okh z = true ∧ (tA i : Int) + (tA j : Int) - 600 - tenC (some z) ≤ 1 ∧ tenC (some z) - ((tA i : Int) + (tA j : Int) - 600) ≤ 1 := by
  unfold pairT at h
  rw [Bool.or_eq_true] at h
  rcases h with h | h
  · have := blt_lt h; omega
  simp only [force_is] at h
  obtain ⟨z, hz, ho, h⟩ := hmulK_is h
  obtain ⟨R, hR, hl, h⟩ := widK_is h
  obtain ⟨s, n, hs, h⟩ := tenK_is hl h
  refine ⟨z, hz, ho, ?_⟩
  have ht : tenC (some z) = tenI R := by simp only [tenC]; rw [hR]; rfl
  rw [ht, hs]
  unfold gap1 at h
  cases s with
  | false =>
    rw [cond_false] at h
    simp only [Bool.and_eq_true, nadd] at h
    have h1 := Nat.le_of_ble_eq_true h.1
    have h2 := Nat.le_of_ble_eq_true h.2
    simp only [Bool.false_eq_true, if_false]
    constructor <;> omega
  | true =>
    rw [cond_true] at h
    simp only [Bool.and_eq_true, nadd] at h
    have h1 := Nat.le_of_ble_eq_true h.1
    have h2 := Nat.le_of_ble_eq_true h.2
    simp only [if_true]
    constructor <;> omega
end Go.Proofs.Ytlkhkpaggkpieaa
