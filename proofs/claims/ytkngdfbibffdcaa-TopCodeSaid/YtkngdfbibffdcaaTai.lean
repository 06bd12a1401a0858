/- Parts of the proof of TopCode: Zb, Za. No condition of its own. -/
import Derived.Test.YtkngdfbibffdcaaTah
set_option linter.unusedVariables false
set_option linter.unusedSimpArgs false
set_option maxRecDepth 100000
set_option maxHeartbeats 4000000
namespace Go.Proofs.Ytkngdfbibffdcaa.Ce
open Go.RowKit
def digC : List UInt8 := [48, 49, 50, 51, 52, 53, 54, 55, 56, 57, 97, 98, 99, 100, 101, 102]
def dig (n : Nat) : UInt8 := digC.getD n 0
def escB (c : UInt8) : List UInt8 := if c = 34 ∨ c = 92 then [92, c] else if c = 10 then [92, 110] else if c < 32 ∨ 126 < c then [92, 120, dig (c.toNat / 16), dig (c.toNat % 16)] else [c]
def escL (s : List UInt8) : List UInt8 := s.flatMap escB
def quoB (s : List UInt8) : List UInt8 := 34 :: (escL s ++ [34])
def tailB (l : List (List UInt8)) : List UInt8 := l.flatMap fun y => 44 :: 32 :: quoB y
def joinB : List (List UInt8) → List UInt8
  | [] => []
  | x :: l => quoB x ++ tailB l
def listB (l : List (List UInt8)) : List UInt8 := 91 :: (joinB l ++ [93])
theorem escB_len (c : UInt8) : (escB c).length ≤ 4 := by
  unfold escB
  split
  · simp
  · split
    · simp
    · split <;> simp
theorem escL_len : ∀ s : List UInt8, (escL s).length ≤ 4 * s.length
  | [] => Nat.le_refl _
  | c :: s => by
    have := escL_len s
    have h2 := escB_len c
    show (escB c ++ escL s).length ≤ _
    rw [List.length_append, List.length_cons]
    omega
theorem quoB_len (s : List UInt8) : (quoB s).length ≤ 4 * s.length + 2 := by
  have := escL_len s
  unfold quoB
  simp only [List.length_cons, List.length_append, List.length_nil]
  omega
theorem tailB_len : ∀ {l : List (List UInt8)}, (∀ s ∈ l, s.length ≤ 100) → (tailB l).length ≤ 404 * l.length
  | [], _ => Nat.le_refl _
  | s :: l, h => by
    have := tailB_len (l := l) fun s hs => h s (by simp [hs])
    have h2 := quoB_len s
    have h3 := h s (by simp)
    show ((44 :: 32 :: quoB s) ++ tailB l).length ≤ _
    simp only [List.length_cons, List.length_append]
    omega
theorem joinB_len {l : List (List UInt8)} (h : ∀ s ∈ l, s.length ≤ 100) : (joinB l).length ≤ 404 * l.length := by
  cases l with
  | nil => exact Nat.le_refl _
  | cons s l =>
    have := tailB_len (l := l) fun s hs => h s (by simp [hs])
    have h2 := quoB_len s
    have h3 := h s (by simp)
    show (quoB s ++ tailB l).length ≤ _
    simp only [List.length_cons, List.length_append]
    omega
theorem escL_snoc (s : List UInt8) (c : UInt8) : escL (s ++ [c]) = escL s ++ escB c := by simp [escL]
theorem tailB_snoc (l : List (List UInt8)) (s : List UInt8) : tailB (l ++ [s]) = tailB l ++ (44 :: 32 :: quoB s) := by simp [tailB]
theorem joinB_snoc (l : List (List UInt8)) (s : List UInt8) : joinB (l ++ [s]) = joinB l ++ (if l = [] then quoB s else 44 :: 32 :: quoB s) := by
  cases l with
  | nil => simp [joinB, tailB]
  | cons x l => simp [joinB, tailB_snoc]
-- numbers to the base 16
def hexS (x : Nat) : Nat → List UInt8
  | 0 => []
  | j + 1 => dig (x / 16 ^ j % 16) :: hexS x j
theorem hexS_len (x : Nat) : ∀ j, (hexS x j).length = j
  | 0 => rfl
  | j + 1 => by rw [hexS, List.length_cons, hexS_len]
theorem hexS_get (x : Nat) : ∀ {j i : Nat}, i < j → (hexS x j).getD i 0 = dig (x / 16 ^ (j - 1 - i) % 16)
  | j + 1, 0, _ => rfl
  | j + 1, i + 1, h => by
    rw [hexS, List.getD_cons_succ, hexS_get x (show i < j from by omega), show j + 1 - 1 - (i + 1) = j - 1 - i from by omega]
def HexJ (x j : Nat) : Prop := 1 ≤ j ∧ j ≤ 16 ∧ x < 16 ^ j ∧ (j = 1 ∨ 16 ^ (j - 1) ≤ x)
theorem dig_ne0 {d : Nat} (h0 : d ≠ 0) (h : d < 16) : dig d ≠ 48 := by
  have : ∀ d, d < 16 → d ≠ 0 → dig d ≠ 48 := by decide
  exact this d h h0
theorem hexJ_top {x j : Nat} (h : HexJ x j) (hj : j ≠ 1) : (hexS x j).getD 0 0 ≠ 48 := by
  obtain ⟨h1, -, h2, h3⟩ := h
  rw [hexS_get x (by omega)]
  rcases h3 with e | h3
  · exact absurd e hj
  · have a : 1 ≤ x / 16 ^ (j - 1 - 0) := by
      rw [Nat.sub_zero]
      exact (Nat.one_le_div_iff (Nat.pow_pos (by decide))).2 h3
    have b : x / 16 ^ (j - 1 - 0) < 16 := by
      rw [Nat.sub_zero]
      refine Nat.div_lt_of_lt_mul ?_
      rw [← Nat.pow_succ, show (j - 1).succ = j from by omega]
      exact h2
    rw [Nat.mod_eq_of_lt b]
    exact dig_ne0 (by omega) b
theorem hexJ_stop {x j : Nat} (h1 : j ≤ 15) (h2 : j = 0 ∨ 16 ^ j ≤ x) (h3 : x / 16 ^ (j + 1) = 0) : HexJ x (j + 1) := by
  refine ⟨by omega, by omega, ?_, ?_⟩
  · have := (Nat.div_eq_zero_iff).1 h3
    rcases this with e | e
    · exact absurd e (Nat.ne_of_gt (Nat.pow_pos (by decide)))
    · exact e
  · rcases h2 with e | e
    · left; omega
    · right; exact e
theorem hexJ_go {x j : Nat} (h3 : x / 16 ^ (j + 1) ≠ 0) : 16 ^ (j + 1) ≤ x := by
  rcases Nat.lt_or_ge x (16 ^ (j + 1)) with h | h
  · exact absurd (Nat.div_eq_of_lt h) h3
  · exact h
end Go.Proofs.Ytkngdfbibffdcaa.Ce
namespace Go.Proofs.Ytkngdfbibffdcaa.Ce
open Go.RowKit
def turnC (x : Nat) : Nat := bif Nat.beq (x % 2) 0 then x / 2 else Nat.xor (x / 2) 3988292384
def tabL : List Nat := [0, 1996959894, 3993919788, 2567524794, 124634137, 1886057615, 3915621685, 2657392035, 249268274, 2044508324, 3772115230, 2547177864, 162941995, 2125561021, 3887607047, 2428444049, 498536548, 1789927666, 4089016648, 2227061214, 450548861, 1843258603, 4107580753, 2211677639, 325883990, 1684777152, 4251122042, 2321926636, 335633487, 1661365465, 4195302755, 2366115317, 997073096, 1281953886, 3579855332, 2724688242, 1006888145, 1258607687, 3524101629, 2768942443, 901097722, 1119000684, 3686517206, 2898065728, 853044451, 1172266101, 3705015759, 2882616665, 651767980, 1373503546, 3369554304, 3218104598, 565507253, 1454621731, 3485111705, 3099436303, 671266974, 1594198024, 3322730930, 2970347812, 795835527, 1483230225, 3244367275, 3060149565, 1994146192, 31158534, 2563907772, 4023717930, 1907459465, 112637215, 2680153253, 3904427059, 2013776290, 251722036, 2517215374, 3775830040, 2137656763, 141376813, 2439277719, 3865271297, 1802195444, 476864866, 2238001368, 4066508878, 1812370925, 453092731, 2181625025, 4111451223, 1706088902, 314042704, 2344532202, 4240017532, 1658658271, 366619977, 2362670323, 4224994405, 1303535960, 984961486, 2747007092, 3569037538, 1256170817, 1037604311, 2765210733, 3554079995, 1131014506, 879679996, 2909243462, 3663771856, 1141124467, 855842277, 2852801631, 3708648649, 1342533948, 654459306, 3188396048, 3373015174, 1466479909, 544179635, 3110523913, 3462522015, 1591671054, 702138776, 2966460450, 3352799412, 1504918807, 783551873, 3082640443, 3233442989, 3988292384, 2596254646, 62317068, 1957810842, 3939845945, 2647816111, 81470997, 1943803523, 3814918930, 2489596804, 225274430, 2053790376, 3826175755, 2466906013, 167816743, 2097651377, 4027552580, 2265490386, 503444072, 1762050814, 4150417245, 2154129355, 426522225, 1852507879, 4275313526, 2312317920, 282753626, 1742555852, 4189708143, 2394877945, 397917763, 1622183637, 3604390888, 2714866558, 953729732, 1340076626, 3518719985, 2797360999, 1068828381, 1219638859, 3624741850, 2936675148, 906185462, 1090812512, 3747672003, 2825379669, 829329135, 1181335161, 3412177804, 3160834842, 628085408, 1382605366, 3423369109, 3138078467, 570562233, 1426400815, 3317316542, 2998733608, 733239954, 1555261956, 3268935591, 3050360625, 752459403, 1541320221, 2607071920, 3965973030, 1969922972, 40735498, 2617837225, 3943577151, 1913087877, 83908371, 2512341634, 3803740692, 2075208622, 213261112, 2463272603, 3855990285, 2094854071, 198958881, 2262029012, 4057260610, 1759359992, 534414190, 2176718541, 4139329115, 1873836001, 414664567, 2282248934, 4279200368, 1711684554, 285281116, 2405801727, 4167216745, 1634467795, 376229701, 2685067896, 3608007406, 1308918612, 956543938, 2808555105, 3495958263, 1231636301, 1047427035, 2932959818, 3654703836, 1088359270, 936918000, 2847714899, 3736837829, 1202900863, 817233897, 3183342108, 3401237130, 1404277552, 615818150, 3134207493, 3453421203, 1423857449, 601450431, 3009837614, 3294710456, 1567103746, 711928724, 3020668471, 3272380065, 1510334235, 755167117]
theorem tabL_len : tabL.length = 256 := by decide +kernel
theorem tabL_ok : (tabL.all fun x => Nat.blt x 4294967296) = true := by decide +kernel
def tabI : List Nat := [0, 65, 195, 130, 134, 199, 69, 4, 77, 12, 142, 207, 203, 138, 8, 73, 154, 219, 89, 24, 28, 93, 223, 158, 215, 150, 20, 85, 81, 16, 146, 211, 117, 52, 182, 247, 243, 178, 48, 113, 56, 121, 251, 186, 190, 255, 125, 60, 239, 174, 44, 109, 105, 40, 170, 235, 162, 227, 97, 32, 36, 101, 231, 166, 234, 171, 41, 104, 108, 45, 175, 238, 167, 230, 100, 37, 33, 96, 226, 163, 112, 49, 179, 242, 246, 183, 53, 116, 61, 124, 254, 191, 187, 250, 120, 57, 159, 222, 92, 29, 25, 88, 218, 155, 210, 147, 17, 80, 84, 21, 151, 214, 5, 68, 198, 135, 131, 194, 64, 1, 72, 9, 139, 202, 206, 143, 13, 76, 149, 212, 86, 23, 19, 82, 208, 145, 216, 153, 27, 90, 94, 31, 157, 220, 15, 78, 204, 141, 137, 200, 74, 11, 66, 3, 129, 192, 196, 133, 7, 70, 224, 161, 35, 98, 102, 39, 165, 228, 173, 236, 110, 47, 43, 106, 232, 169, 122, 59, 185, 248, 252, 189, 63, 126, 55, 118, 244, 181, 177, 240, 114, 51, 127, 62, 188, 253, 249, 184, 58, 123, 50, 115, 241, 176, 180, 245, 119, 54, 229, 164, 38, 103, 99, 34, 160, 225, 168, 233, 107, 42, 46, 111, 237, 172, 10, 75, 201, 136, 140, 205, 79, 14, 71, 6, 132, 197, 193, 128, 2, 67, 144, 209, 83, 18, 22, 87, 213, 148, 221, 156, 30, 95, 91, 26, 152, 217]
theorem tabI_ok : ((List.range 256).all fun i => Nat.beq (tabI.getD (tabL.getD i 0 / 16777216) 0) i) = true := by decide +kernel
theorem getD_lt {α : Type} {l : List α} {i : Nat} {d : α} (h : i < l.length) : l.getD i d = l[i] := by rw [List.getD_eq_getElem?_getD, List.getElem?_eq_getElem h]; rfl
theorem getD_ge {α : Type} {l : List α} {i : Nat} {d : α} (h : l.length ≤ i) : l.getD i d = d := by rw [List.getD_eq_getElem?_getD, List.getElem?_eq_none h]; rfl
theorem tab_lt (i : Nat) : tabL.getD i 0 < 4294967296 := by
  rcases Nat.lt_or_ge i tabL.length with h | h
  · have := List.all_eq_true.1 tabL_ok (tabL.getD i 0) (by rw [getD_lt h]; exact List.getElem_mem _)
    rwa [Nat.blt_eq] at this
  · rw [getD_ge h]; decide
theorem tab_inj {i j : Nat} (hi : i < 256) (hj : j < 256) (h : tabL.getD i 0 / 16777216 = tabL.getD j 0 / 16777216) : i = j := by
  have a := Nat.eq_of_beq_eq_true (List.all_eq_true.1 tabI_ok i (List.mem_range.2 hi))
  have b := Nat.eq_of_beq_eq_true (List.all_eq_true.1 tabI_ok j (List.mem_range.2 hj))
  rw [← a, ← b, h]
def stpC (x : Nat) (c : UInt8) : Nat := (x / 256) ^^^ tabL.getD ((x % 256) ^^^ c.toNat) 0
theorem xor_256 {a b : Nat} (ha : a < 256) (hb : b < 256) : a ^^^ b < 256 := Nat.xor_lt_two_pow (n := 8) ha hb
theorem stpC_lt {x : Nat} (hx : x < 4294967296) (c : UInt8) : stpC x c < 4294967296 := Nat.xor_lt_two_pow (n := 32) (by omega) (tab_lt _)
theorem xor_can {a b c : Nat} (h : a ^^^ c = b ^^^ c) : a = b := by
  have := congrArg (· ^^^ c) h
  simpa [Nat.xor_assoc] using this
theorem xor_can' {a b c : Nat} (h : c ^^^ a = c ^^^ b) : a = b := xor_can (c := c) (by rw [Nat.xor_comm a, Nat.xor_comm b, h])
theorem stpC_hi {x : Nat} (hx : x < 4294967296) (c : UInt8) : stpC x c / 16777216 = tabL.getD ((x % 256) ^^^ c.toNat) 0 / 16777216 := by
  unfold stpC
  rw [show (16777216 : Nat) = 2 ^ 24 from rfl, ← Nat.shiftRight_eq_div_pow, ← Nat.shiftRight_eq_div_pow, Nat.shiftRight_xor_distrib, Nat.shiftRight_eq_div_pow (x / 256), show x / 256 / 2 ^ 24 = 0 from by omega, Nat.zero_xor]
theorem stpC_inj {x y : Nat} (hx : x < 4294967296) (hy : y < 4294967296) {c : UInt8} (h : stpC x c = stpC y c) : x = y := by
  have e : (x % 256) ^^^ c.toNat = (y % 256) ^^^ c.toNat := tab_inj (xor_256 (by omega) c.toNat_lt) (xor_256 (by omega) c.toNat_lt) (by rw [← stpC_hi hx, ← stpC_hi hy, h])
  have e1 := xor_can e
  have e2 : x / 256 = y / 256 := by
    unfold stpC at h
    rw [e] at h
    exact xor_can h
  omega
theorem stpC_byte {x : Nat} (hx : x < 4294967296) {c c2 : UInt8} (h : stpC x c = stpC x c2) : c = c2 := by
  have e : (x % 256) ^^^ c.toNat = (x % 256) ^^^ c2.toNat := tab_inj (xor_256 (by omega) c.toNat_lt) (xor_256 (by omega) c2.toNat_lt) (by rw [← stpC_hi hx, ← stpC_hi hx, h])
  exact UInt8.toNat_inj.1 (xor_can' e)
def runC (x : Nat) (b : List UInt8) : Nat := b.foldl stpC x
theorem runC_lt : ∀ {b : List UInt8} {x : Nat}, x < 4294967296 → runC x b < 4294967296
  | [], _, h => h
  | c :: b, _, h => runC_lt (b := b) (stpC_lt h c)
theorem runC_app (x : Nat) (a b : List UInt8) : runC x (a ++ b) = runC (runC x a) b := List.foldl_append ..
theorem runC_inj : ∀ {b : List UInt8} {x y : Nat}, x < 4294967296 → y < 4294967296 → runC x b = runC y b → x = y
  | [], _, _, _, _, h => h
  | c :: b, _, _, hx, hy, h => stpC_inj hx hy (runC_inj (b := b) (stpC_lt hx c) (stpC_lt hy c) h)
theorem runC_take (x : Nat) (b : List UInt8) (j : Nat) (hj : j < b.length) : runC x (b.take (j + 1)) = stpC (runC x (b.take j)) (b.getD j 0) := by
  rw [List.take_add_one, runC_app, List.getD_eq_getElem?_getD]
  rw [List.getElem?_eq_getElem hj]
  rfl
theorem runC_set {b : List UInt8} {j : Nat} (hj : j < b.length) (c : UInt8) {x : Nat} (hx : x < 4294967296) (h : runC x (b.set j c) = runC x b) : c = b.getD j 0 := by
  have e1 : b.set j c = b.take j ++ c :: b.drop (j + 1) := by rw [List.set_eq_take_append_cons_drop, if_pos hj]
  have e2 : b = b.take j ++ b.getD j 0 :: b.drop (j + 1) := by
    rw [getD_lt hj, List.getElem_cons_drop, List.take_append_drop]
  have e3 : runC x b = runC x (b.take j ++ b.getD j 0 :: b.drop (j + 1)) := by rw [← e2]
  rw [e1, e3, runC_app, runC_app] at h
  have hl := runC_lt (b := b.take j) hx
  exact stpC_byte hl (runC_inj (stpC_lt hl _) (stpC_lt hl _) h)
theorem set_self {b : List UInt8} {j : Nat} (hj : j < b.length) : b.set j (b.getD j 0) = b := by
  rw [getD_lt hj, List.set_getElem_self]
end Go.Proofs.Ytkngdfbibffdcaa.Ce
