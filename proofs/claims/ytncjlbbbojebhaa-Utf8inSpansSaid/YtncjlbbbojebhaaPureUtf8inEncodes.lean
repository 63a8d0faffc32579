/- Any number's bytes are those of the definition, and they are that character again. No condition. -/
import Derived.Test.YtncjlbbbojebhaaSayUtf8inEncodes
import Derived.Test.YtncjlbbbojebhaaPlain3
namespace Go.Proofs.Ytncjlbbbojebhaa.Pure
open Go.RowKit Go.Proofs.Ytncjlbbbojebhaa.P Go.Proofs.YtncjlbbbojebhaaW.PrintWords Go.Proofs.YtncjlbbbojebhaaW.PrintLast Go.Proofs.YtncjlbbbojebhaaW.PrintMore

theorem and63i (x : Int) (h0 : 0 ≤ x) (h1 : x < 2 ^ 50) : Go.bits .and .i64 x 63 = x % 64 := by
  obtain ⟨n, rfl⟩ : ∃ n : Nat, x = n := ⟨x.toNat, by omega⟩
  have h : Go.bits .and .i64 (n : Int) 63 = IntKind.i64.wrap (((BitVec.ofInt 64 (n : Int)) &&& (BitVec.ofInt 64 ((63 : Nat) : Int))).toNat : Int) := rfl
  have h1' : (BitVec.ofInt 64 (n : Int)) = BitVec.ofNat 64 n := BitVec.ofInt_natCast ..
  have h2 : (BitVec.ofInt 64 ((63 : Nat) : Int)) = BitVec.ofNat 64 63 := BitVec.ofInt_natCast ..
  have e : n &&& 63 = n % 64 := Nat.and_two_pow_sub_one_eq_mod n 6
  rw [h, h1', h2, BitVec.toNat_and, BitVec.toNat_ofNat, BitVec.toNat_ofNat, Nat.mod_eq_of_lt (a := n) (by omega), Nat.mod_eq_of_lt (a := 63) (by omega), e, i64_w, wrap_id _ (by omega) (by omega)]
  omega
theorem or192 (y : Int) (h0 : 0 ≤ y) (h1 : y < 32) : Go.bits .or .i64 192 y = 192 + y := by
  have h : ∀ x : Fin 32, Go.bits .or .i64 192 (x.val : Int) = 192 + (x.val : Int) := by decide +kernel
  have := h ⟨y.toNat, by omega⟩
  simpa [Int.toNat_of_nonneg h0] using this
theorem or224 (y : Int) (h0 : 0 ≤ y) (h1 : y < 16) : Go.bits .or .i64 224 y = 224 + y := by
  have h : ∀ x : Fin 16, Go.bits .or .i64 224 (x.val : Int) = 224 + (x.val : Int) := by decide +kernel
  have := h ⟨y.toNat, by omega⟩
  simpa [Int.toNat_of_nonneg h0] using this
theorem or240 (y : Int) (h0 : 0 ≤ y) (h1 : y < 8) : Go.bits .or .i64 240 y = 240 + y := by
  have h : ∀ x : Fin 8, Go.bits .or .i64 240 (x.val : Int) = 240 + (x.val : Int) := by decide +kernel
  have := h ⟨y.toNat, by omega⟩
  simpa [Int.toNat_of_nonneg h0] using this
theorem or128 (y : Int) (h0 : 0 ≤ y) (h1 : y < 64) : Go.bits .or .i64 128 y = 128 + y := by
  have h : ∀ x : Fin 64, Go.bits .or .i64 128 (x.val : Int) = 128 + (x.val : Int) := by decide +kernel
  have := h ⟨y.toNat, by omega⟩
  simpa [Int.toNat_of_nonneg h0] using this

/-- the bytes, as numbers -/
def encN (c : Nat) : List Nat :=
  if c < 128 then [c] else if c < 2048 then [192 + c / 64, 128 + c % 64] else if c < 65536 then [224 + c / 4096, 128 + c / 64 % 64, 128 + c % 64] else [240 + c / 262144, 128 + c / 4096 % 64, 128 + c / 64 % 64, 128 + c % 64]
def bytesOf (l : List Nat) : ByteArray := ⟨(l.map UInt8.ofNat).toArray⟩

theorem ok_valid (q : Int) (h : okRune q) : Utf8.valid q = true := by
  unfold okRune at h
  unfold Utf8.valid
  simp
  omega
theorem encode_eq (q : Int) (h : okRune q) : Utf8.encode q = bytesOf (encN q.toNat) := by
  unfold Utf8.encode encN bytesOf
  simp only [ok_valid q h, if_true]
  repeat' split
  all_goals rfl

theorem str_eq (l : List Int) (m : List Nat) (h : l.map Int.toNat = m) : strOfNums l = bytesOf m := by
  subst h
  unfold strOfNums bytesOf
  rw [List.map_map]
  rfl

theorem refEncode_some (q : Int) (h : okRune q) (k : Nat) (hk : 1 ≤ k) : taffrailref03_Encode.j0 k q = some (Utf8.encode q) := by
  obtain ⟨m, rfl⟩ : ∃ m, k = m + 1 := ⟨k - 1, by omega⟩
  rw [encode_eq q h]
  unfold okRune at h
  simp only [taffrailref03_Encode.j0]
  unfold encN
  by_cases c1 : q < 128
  · rw [if_pos c1, if_pos (show q.toNat < 128 by omega), str_eq _ _ rfl]
    simp only [List.map_cons, List.map_nil]
    rw [show (q % 256).toNat = q.toNat by omega]
  rw [if_neg c1, if_neg (show ¬ q.toNat < 128 by omega)]
  by_cases c2 : q < 2048
  · rw [if_pos c2, if_pos (show q.toNat < 2048 by omega), str_eq _ _ rfl, or192 _ (by omega) (by omega), and63i _ (by omega) (by omega), or128 _ (by omega) (by omega)]
    simp only [List.map_cons, List.map_nil]
    rw [show ((192 + q / 64) % 256).toNat = 192 + q.toNat / 64 by omega, show ((128 + q % 64) % 256).toNat = 128 + q.toNat % 64 by omega]
  rw [if_neg c2, if_neg (show ¬ q.toNat < 2048 by omega)]
  by_cases c3 : q < 65536
  · rw [if_pos c3, if_pos (show q.toNat < 65536 by omega), str_eq _ _ rfl, or224 _ (by omega) (by omega), and63i _ (by omega) (by omega), and63i _ (by omega) (by omega), or128 _ (by omega) (by omega), or128 _ (by omega) (by omega)]
    simp only [List.map_cons, List.map_nil]
    rw [show ((224 + q / 4096) % 256).toNat = 224 + q.toNat / 4096 by omega, show ((128 + q / 64 % 64) % 256).toNat = 128 + q.toNat / 64 % 64 by omega, show ((128 + q % 64) % 256).toNat = 128 + q.toNat % 64 by omega]
  · rw [if_neg c3, if_neg (show ¬ q.toNat < 65536 by omega), str_eq _ _ rfl, or240 _ (by omega) (by omega), and63i _ (by omega) (by omega), and63i _ (by omega) (by omega), and63i _ (by omega) (by omega), or128 _ (by omega) (by omega), or128 _ (by omega) (by omega), or128 _ (by omega) (by omega)]
    simp only [List.map_cons, List.map_nil]
    rw [show ((240 + q / 262144) % 256).toNat = 240 + q.toNat / 262144 by omega, show ((128 + q / 4096 % 64) % 256).toNat = 128 + q.toNat / 4096 % 64 by omega, show ((128 + q / 64 % 64) % 256).toNat = 128 + q.toNat / 64 % 64 by omega, show ((128 + q % 64) % 256).toNat = 128 + q.toNat % 64 by omega]

theorem may_some (r : Int) : taffrailref03_May.f r = some (decide (okRune r)) := by
  unfold taffrailref03_May.f okRune
  by_cases h1 : r ≥ 0
  · rw [if_pos h1]
    by_cases h2 : r ≤ 1114111
    · rw [if_pos h2]
      by_cases h3 : r < 55296
      · rw [if_pos h3]; congr 1; symm; exact decide_eq_true (by omega)
      · rw [if_neg h3]; congr 1; exact decide_eq_decide.mpr (by omega)
    · rw [if_neg h2]; congr 1; symm; exact decide_eq_false (by omega)
  · rw [if_neg h1]; congr 1; symm; exact decide_eq_false (by omega)

theorem size_bytes (l : List Nat) : (bytesOf l).size = l.length := by simp [bytesOf, ByteArray.size]
theorem bt_bytes (l : List Nat) (i : Nat) (h : i < l.length) (hb : l[i] < 256) : bt (bytesOf l) i = l[i] := by
  have hs : ((i : Int)).toNat < (bytesOf l).size := by rw [size_bytes]; simpa using h
  unfold bt
  rw [dif_pos hs]
  have : (bytesOf l)[((i : Int)).toNat]'hs = UInt8.ofNat l[i] := by
    show ((l.map UInt8.ofNat).toArray)[((i : Int)).toNat] = _
    simp
  rw [this]
  rw [UInt8.toNat_ofNat', Nat.mod_eq_of_lt hb]

theorem decode_single (x : ByteArray) (r N : Int) (h : oneOf (bt x) x.size = (r, N, false)) (hr : 0 ≤ r) (hN : N = x.size) (h1 : 1 ≤ N) (h4 : N ≤ 4) : taffrailref03_Decode.f 100 x 0 = some ([⟨r, 0, N⟩], []) := by
  unfold taffrailref03_Decode.f
  have e : x.extract N.toNat x.size = x.extract x.size x.size := by rw [hN]; simp
  have e0 : (x.extract x.size x.size).size = 0 := by rw [ByteArray.size_extract]; omega
  have gen : ∀ m, 60 ≤ m → taffrailref03_Decode.l0 (m + 1 + 1) x 0 [] [] = some ([⟨r, 0, N⟩], []) := by
    intro m hm
    simp only [taffrailref03_Decode.l0]
    rw [if_pos (by omega), one_some x _ (by omega) (by omega), h]
    simp only [Option.bind_some]
    rw [if_neg (by omega), if_pos (by simp), if_pos (by omega), if_pos (by omega), e, if_neg (by omega), wrap_id _ (by omega) (by omega)]
    simp
  exact gen 98 (by omega)

theorem told_enc (q : Int) (h : okRune q) : told (Utf8.encode q) = ([⟨q, 0, ((Utf8.encode q).size : Int)⟩], []) := by
  have key : ∃ N, oneOf (bt (Utf8.encode q)) (Utf8.encode q).size = (q, N, false) ∧ N = (Utf8.encode q).size ∧ 1 ≤ N ∧ N ≤ 4 := by
    rw [encode_eq q h]
    unfold okRune at h
    have hq : (q.toNat : Int) = q := by omega
    unfold oneOf
    by_cases c1 : q.toNat < 128
    · have e : encN q.toNat = [q.toNat] := if_pos c1
      rw [e]
      have b0 : bt (bytesOf [q.toNat]) 0 = q.toNat := bt_bytes [q.toNat] 0 (by simp) (by simp; omega)
      refine ⟨1, ?_, by rw [size_bytes]; rfl, by omega, by omega⟩
      have hn : needOf (bt (bytesOf [q.toNat]) 0) = 1 := by rw [b0]; unfold needOf; rw [if_pos (by omega)]
      rw [hn, if_neg (by omega)]
      have ha : acc (bt (bytesOf [q.toNat])) 1 = q := by
        show firstR (bt (bytesOf [q.toNat]) 0) = q
        rw [b0]; unfold firstR; rw [if_pos (by omega)]; omega
      show oneRes _ _ 1 1 = _
      unfold oneRes
      rw [if_neg (by omega)]
      show (acc (bt (bytesOf [q.toNat])) 1, _, _) = _
      rw [ha]
    by_cases c2 : q.toNat < 2048
    · have e : encN q.toNat = [192 + q.toNat / 64, 128 + q.toNat % 64] := by unfold encN; rw [if_neg c1, if_pos c2]
      rw [e]
      have b0 := bt_bytes [192 + q.toNat / 64, 128 + q.toNat % 64] 0 (by simp) (by simp; omega)
      have b1 := bt_bytes [192 + q.toNat / 64, 128 + q.toNat % 64] 1 (by simp) (by simp; omega)
      simp only [List.getElem_cons_zero, List.getElem_cons_succ] at b0 b1
      have hs := size_bytes [192 + q.toNat / 64, 128 + q.toNat % 64]
      generalize bytesOf [192 + q.toNat / 64, 128 + q.toNat % 64] = x at *
      simp only [List.length_cons, List.length_nil] at hs
      have b0' : bt x 0 = 192 + q / 64 := by rw [show (0 : Int) = ((0 : Nat) : Int) from rfl, b0]; omega
      have b1' : bt x 1 = 128 + q % 64 := by rw [show (1 : Int) = ((1 : Nat) : Int) from rfl, b1]; omega
      refine ⟨2, ?_, by omega, by omega, by omega⟩
      have hn : needOf (bt x 0) = 2 := by rw [b0']; unfold needOf; rw [if_neg (by omega), if_pos (by omega)]
      have hr := bt_range x
      have a1 : acc (bt x) 1 = (192 + q / 64) % 32 := by show firstR (bt x 0) = _; rw [b0']; unfold firstR; rw [if_neg (by omega), if_pos (by omega)]
      have a2 : acc (bt x) 2 = q := by show accStep (acc (bt x) 1) (bt x 1) = _; rw [a1, b1', accStep_eq _ _ (by omega) (by omega) (by omega)]; omega
      have l0 : lowOf (bt x 0) = 128 := by rw [b0']; unfold lowOf; rw [if_neg (by omega), if_neg (by omega)]
      have u0 : highOf (bt x 0) = 191 := by rw [b0']; unfold highOf; rw [if_neg (by omega), if_neg (by omega)]
      have k1 : okAt (bt x) 1 := by unfold okAt; rw [if_pos rfl, l0, u0, b1']; omega
      rw [hn, if_neg (by omega), show ((2 : Int) - 1).toNat = 1 from rfl]
      have hsc : scan (bt x) x.size 1 1 = 2 := by show (if _ then _ else _) = _; rw [if_pos ⟨by omega, k1⟩]; rfl
      rw [hsc]
      unfold oneRes
      rw [if_neg (by omega)]
      show (acc (bt x) 2, _, _) = _
      rw [a2]
    by_cases c3 : q.toNat < 65536
    · have e : encN q.toNat = [224 + q.toNat / 4096, 128 + q.toNat / 64 % 64, 128 + q.toNat % 64] := by unfold encN; rw [if_neg c1, if_neg c2, if_pos c3]
      rw [e]
      have b0 := bt_bytes [224 + q.toNat / 4096, 128 + q.toNat / 64 % 64, 128 + q.toNat % 64] 0 (by simp) (by simp; omega)
      have b1 := bt_bytes [224 + q.toNat / 4096, 128 + q.toNat / 64 % 64, 128 + q.toNat % 64] 1 (by simp) (by simp; omega)
      have b2 := bt_bytes [224 + q.toNat / 4096, 128 + q.toNat / 64 % 64, 128 + q.toNat % 64] 2 (by simp) (by simp; omega)
      simp only [List.getElem_cons_zero, List.getElem_cons_succ] at b0 b1 b2
      have hs := size_bytes [224 + q.toNat / 4096, 128 + q.toNat / 64 % 64, 128 + q.toNat % 64]
      generalize bytesOf [224 + q.toNat / 4096, 128 + q.toNat / 64 % 64, 128 + q.toNat % 64] = x at *
      simp only [List.length_cons, List.length_nil] at hs
      have b0' : bt x 0 = 224 + q / 4096 := by rw [show (0 : Int) = ((0 : Nat) : Int) from rfl, b0]; omega
      have b1' : bt x 1 = 128 + q / 64 % 64 := by rw [show (1 : Int) = ((1 : Nat) : Int) from rfl, b1]; omega
      have b2' : bt x 2 = 128 + q % 64 := by rw [show (2 : Int) = ((2 : Nat) : Int) from rfl, b2]; omega
      refine ⟨3, ?_, by omega, by omega, by omega⟩
      have hn : needOf (bt x 0) = 3 := by rw [b0']; unfold needOf; rw [if_neg (by omega), if_neg (by omega), if_pos (by omega)]
      have a1 : acc (bt x) 1 = (224 + q / 4096) % 16 := by show firstR (bt x 0) = _; rw [b0']; unfold firstR; rw [if_neg (by omega), if_neg (by omega), if_pos (by omega)]
      have a2 : acc (bt x) 2 = (224 + q / 4096) % 16 * 64 + q / 64 % 64 := by show accStep (acc (bt x) 1) (bt x 1) = _; rw [a1, b1', accStep_eq _ _ (by omega) (by omega) (by omega)]; omega
      have a3 : acc (bt x) 3 = q := by show accStep (acc (bt x) 2) (bt x 2) = _; rw [a2, b2', accStep_eq _ _ (by omega) (by omega) (by omega)]; omega
      have k1 : okAt (bt x) 1 := by
        unfold okAt
        rw [if_pos rfl, b0', b1']
        unfold lowOf highOf
        repeat' split
        all_goals omega
      have k2 : okAt (bt x) 2 := by unfold okAt; rw [if_neg (by omega), b2']; omega
      rw [hn, if_neg (by omega), show ((3 : Int) - 1).toNat = 2 from rfl]
      have hsc : scan (bt x) x.size 2 1 = 3 := by
        show (if _ then (if _ then _ else _) else _) = _
        rw [if_pos ⟨by omega, k1⟩, if_pos ⟨by omega, k2⟩]; rfl
      rw [hsc]
      unfold oneRes
      rw [if_neg (by omega)]
      show (acc (bt x) 3, _, _) = _
      rw [a3]
    · have e : encN q.toNat = [240 + q.toNat / 262144, 128 + q.toNat / 4096 % 64, 128 + q.toNat / 64 % 64, 128 + q.toNat % 64] := by unfold encN; rw [if_neg c1, if_neg c2, if_neg c3]
      rw [e]
      have b0 := bt_bytes [240 + q.toNat / 262144, 128 + q.toNat / 4096 % 64, 128 + q.toNat / 64 % 64, 128 + q.toNat % 64] 0 (by simp) (by simp; omega)
      have b1 := bt_bytes [240 + q.toNat / 262144, 128 + q.toNat / 4096 % 64, 128 + q.toNat / 64 % 64, 128 + q.toNat % 64] 1 (by simp) (by simp; omega)
      have b2 := bt_bytes [240 + q.toNat / 262144, 128 + q.toNat / 4096 % 64, 128 + q.toNat / 64 % 64, 128 + q.toNat % 64] 2 (by simp) (by simp; omega)
      have b3 := bt_bytes [240 + q.toNat / 262144, 128 + q.toNat / 4096 % 64, 128 + q.toNat / 64 % 64, 128 + q.toNat % 64] 3 (by simp) (by simp; omega)
      simp only [List.getElem_cons_zero, List.getElem_cons_succ] at b0 b1 b2 b3
      have hs := size_bytes [240 + q.toNat / 262144, 128 + q.toNat / 4096 % 64, 128 + q.toNat / 64 % 64, 128 + q.toNat % 64]
      generalize bytesOf [240 + q.toNat / 262144, 128 + q.toNat / 4096 % 64, 128 + q.toNat / 64 % 64, 128 + q.toNat % 64] = x at *
      simp only [List.length_cons, List.length_nil] at hs
      have b0' : bt x 0 = 240 + q / 262144 := by rw [show (0 : Int) = ((0 : Nat) : Int) from rfl, b0]; omega
      have b1' : bt x 1 = 128 + q / 4096 % 64 := by rw [show (1 : Int) = ((1 : Nat) : Int) from rfl, b1]; omega
      have b2' : bt x 2 = 128 + q / 64 % 64 := by rw [show (2 : Int) = ((2 : Nat) : Int) from rfl, b2]; omega
      have b3' : bt x 3 = 128 + q % 64 := by rw [show (3 : Int) = ((3 : Nat) : Int) from rfl, b3]; omega
      refine ⟨4, ?_, by omega, by omega, by omega⟩
      have hn : needOf (bt x 0) = 4 := by rw [b0']; unfold needOf; rw [if_neg (by omega), if_neg (by omega), if_neg (by omega), if_pos (by omega)]
      have a1 : acc (bt x) 1 = (240 + q / 262144) % 8 := by show firstR (bt x 0) = _; rw [b0']; unfold firstR; rw [if_neg (by omega), if_neg (by omega), if_neg (by omega)]
      have a2 : acc (bt x) 2 = (240 + q / 262144) % 8 * 64 + q / 4096 % 64 := by show accStep (acc (bt x) 1) (bt x 1) = _; rw [a1, b1', accStep_eq _ _ (by omega) (by omega) (by omega)]; omega
      have a3 : acc (bt x) 3 = ((240 + q / 262144) % 8 * 64 + q / 4096 % 64) * 64 + q / 64 % 64 := by show accStep (acc (bt x) 2) (bt x 2) = _; rw [a2, b2', accStep_eq _ _ (by omega) (by omega) (by omega)]; omega
      have a4 : acc (bt x) 4 = q := by show accStep (acc (bt x) 3) (bt x 3) = _; rw [a3, b3', accStep_eq _ _ (by omega) (by omega) (by omega)]; omega
      have k1 : okAt (bt x) 1 := by
        unfold okAt
        rw [if_pos rfl, b0', b1']
        unfold lowOf highOf
        repeat' split
        all_goals omega
      have k2 : okAt (bt x) 2 := by unfold okAt; rw [if_neg (by omega), b2']; omega
      have k3 : okAt (bt x) 3 := by unfold okAt; rw [if_neg (by omega), b3']; omega
      rw [hn, if_neg (by omega), show ((4 : Int) - 1).toNat = 3 from rfl]
      have hsc : scan (bt x) x.size 3 1 = 4 := by
        show (if _ then (if _ then (if _ then _ else _) else _) else _) = _
        rw [if_pos ⟨by omega, k1⟩, if_pos ⟨by omega, k2⟩, if_pos ⟨by omega, k3⟩]; rfl
      rw [hsc]
      unfold oneRes
      rw [if_neg (by omega)]
      show (acc (bt x) 4, _, _) = _
      rw [a4]
  obtain ⟨N, h1, h2, h3, h4⟩ := key
  have hd := decode_single (Utf8.encode q) q N h1 h.1 h2 h3 h4
  rw [ref_some _ (by omega) 100 (by omega)] at hd
  rw [Option.some.inj hd, h2]

theorem enc_size (q : Int) (h : okRune q) : (Utf8.encode q).size ≤ 4 := by
  rw [encode_eq q h, size_bytes]
  unfold encN
  repeat' split
  all_goals simp

theorem Utf8inEncodes : taffraillaw03_Utf8inEncodes.Pure := by
  have key : ∀ q, okRune q → ∀ k, 1 ≤ k → taffraillaw03_Utf8inEncodes.j0 k q (Utf8.encode q) = some true := by
    intro q h k hk
    obtain ⟨m, rfl⟩ : ∃ m, k = m + 1 := ⟨k - 1, by omega⟩
    have hs := enc_size q h
    simp only [taffraillaw03_Utf8inEncodes.j0]
    rw [utf8in_some _ (by omega), told_enc q h, awake_some]
    simp [rd_T34]
  intro r _
  refine ⟨10, ?_⟩
  have he : utf8in_Encode.f r = some (Utf8.encode (if okRune r then r else 65533)) := rfl
  unfold taffraillaw03_Utf8inEncodes.f
  rw [he]
  unfold taffrailref03_Encode.f
  rw [may_some]
  simp only [Option.bind_some]
  by_cases h : okRune r
  · rw [if_pos h, if_pos (decide_eq_true h), refEncode_some r h 10 (by omega)]
    simp only [Option.bind_some]
    rw [if_pos trivial, if_pos (decide_eq_true h)]
    exact key r h 10 (by omega)
  · have h' : okRune 65533 := by unfold okRune; omega
    rw [if_neg h, if_neg (by simpa using h), refEncode_some _ h' 10 (by omega)]
    simp only [Option.bind_some]
    rw [if_pos trivial, if_neg (by simpa using h)]
    exact key _ h' 10 (by omega)
end Go.Proofs.Ytncjlbbbojebhaa.Pure
