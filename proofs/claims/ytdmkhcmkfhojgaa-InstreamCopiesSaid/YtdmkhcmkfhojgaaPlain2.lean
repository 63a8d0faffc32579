/- Layer 3's plain law, second part: the machine. -/
import Derived.Test.YtdmkhcmkfhojgaaPlain
set_option linter.unusedVariables false
set_option linter.unusedSimpArgs false
namespace Go.Proofs.Ytdmkhcmkfhojgaa.Pure
open Go.RowKit Go.Proofs.Ytdmkhcmkfhojgaa.P Go.Proofs.YtdmkhcmkfhojgaaW.PrintWords Go.Proofs.YtdmkhcmkfhojgaaW.PrintLast Go.Proofs.YtdmkhcmkfhojgaaW.PrintMore

theorem or_eq (x y : Nat) (hx : x < 2 ^ 50) (hy : y < 64) : Go.bits .or .i64 ((x * 64 : Nat) : Int) (y : Int) = ((x * 64 + y : Nat) : Int) := by
  have e : x * 64 + y = x * 64 ||| y := by
    have := Nat.two_pow_add_eq_or_of_lt (i := 6) (b := y) (by omega) x
    simpa [Nat.mul_comm] using this
  have h0 : Go.bits .or .i64 ((x * 64 : Nat) : Int) (y : Int) = IntKind.i64.wrap (((BitVec.ofInt 64 ((x * 64 : Nat) : Int)) ||| (BitVec.ofInt 64 (y : Int))).toNat : Int) := rfl
  have h1 : (BitVec.ofInt 64 ((x * 64 : Nat) : Int)) = BitVec.ofNat 64 (x * 64) := BitVec.ofInt_natCast ..
  have h2 : (BitVec.ofInt 64 ((y : Nat) : Int)) = BitVec.ofNat 64 y := BitVec.ofInt_natCast ..
  rw [h0, h1, h2, BitVec.toNat_or, BitVec.toNat_ofNat, BitVec.toNat_ofNat, Nat.mod_eq_of_lt (by omega), Nat.mod_eq_of_lt (by omega), ← e]
  have hz : ((x * 64 + y : Nat) : Int) < 2 ^ 62 := by omega
  generalize x * 64 + y = z at *
  rw [i64_w]
  exact wrap_id _ (by omega) (by omega)

theorem accStep_eq (r c : Int) (h0 : 0 ≤ r) (h1 : r < 2 ^ 50) (hc : 0 ≤ c) : accStep r c = r * 64 + c % 64 := by
  have h := or_eq r.toNat (c % 64).toNat (by omega) (by omega)
  unfold accStep
  rw [wrap_id _ (by omega) (by omega)]
  have e1 : ((r.toNat * 64 : Nat) : Int) = r * 64 := by omega
  have e2 : (((c % 64).toNat : Nat) : Int) = c % 64 := by omega
  rw [e1, e2] at h
  rw [h]
  omega

theorem firstR_range (c : Int) (h0 : 0 ≤ c) : 0 ≤ firstR c ∧ firstR c < 256 := by
  unfold firstR
  repeat' split
  all_goals omega
theorem acc_range (b : Int → Int) (hb : ∀ i, 0 ≤ b i ∧ b i ≤ 255) : (0 ≤ acc b 1 ∧ acc b 1 < 256) ∧ (0 ≤ acc b 2 ∧ acc b 2 < 16384) ∧ (0 ≤ acc b 3 ∧ acc b 3 < 1048576) ∧ (0 ≤ acc b 4 ∧ acc b 4 < 67108864) := by
  have h1 := firstR_range (b 0) (hb 0).1
  have h1' : acc b 1 = firstR (b 0) := rfl
  have h2 : acc b 2 = accStep (acc b 1) (b 1) := rfl
  have h3 : acc b 3 = accStep (acc b 2) (b 2) := rfl
  have h4 : acc b 4 = accStep (acc b 3) (b 3) := rfl
  rw [h1'] at h2 ⊢
  rw [accStep_eq _ _ h1.1 (by omega) (hb 1).1] at h2
  rw [accStep_eq _ _ (by omega) (by omega) (hb 2).1] at h3
  rw [accStep_eq _ _ (by omega) (by omega) (hb 3).1] at h4
  omega
theorem acc_nonneg (b : Int → Int) (hb : ∀ i, 0 ≤ b i ∧ b i ≤ 255) (N : Int) (h1 : 1 ≤ N) (h4 : N ≤ 4) : 0 ≤ acc b N.toNat := by
  have h := acc_range b hb
  obtain h' | h' | h' | h' : N = 1 ∨ N = 2 ∨ N = 3 ∨ N = 4 := by omega
  all_goals (subst h'; first | exact h.1.1 | exact h.2.1.1 | exact h.2.2.1.1 | exact h.2.2.2.1)

/-- d steps, from byte k on -/
def goS (t : ByteArray) : Nat → Nat → St → St
  | 0, _, s => s
  | d + 1, k, s => goS t d (k + 1) (s.step (bt t k))
theorem go_snoc (t : ByteArray) : ∀ (d k : Nat) (s : St), goS t (d + 1) k s = (goS t d k s).step (bt t ((k + d : Nat) : Int))
  | 0, k, s => rfl
  | d + 1, k, s => by
    have := go_snoc t d (k + 1) (s.step (bt t k))
    show goS t (d + 1) (k + 1) (s.step (bt t k)) = _
    rw [this, show k + 1 + d = k + (d + 1) by omega]
    rfl
theorem upto_go (t : ByteArray) (s : St) (n : Nat) : St.upto t s n = goS t n 0 s := by
  induction n with
  | zero => rfl
  | succ n ih =>
    rw [go_snoc, ← ih, Nat.zero_add]
    rfl
theorem go_zero (t : ByteArray) (k : Nat) (s : St) : goS t 0 k s = s := rfl
def St.res (s : St) : List S36 × List S39 := (s.cs ++ s.d.endC, s.fs ++ s.d.endF)

theorem begin_need (d : Dec) (c : Int) (h0 : 0 ≤ c) (h1 : c ≤ 255) (hn : needOf c ≠ 0) : begOk c = true ∧ d.begin c = ⟨d.at_, 1, needOf c, lowOf c, highOf c, firstR c⟩ := by
  unfold needOf at hn
  unfold begOk Dec.begin needOf lowOf highOf firstR
  by_cases c1 : c < 128
  · refine ⟨decide_eq_true (by omega), ?_⟩
    simp only [if_pos c1, if_neg (show ¬ c = 224 by omega), if_neg (show ¬ c = 240 by omega), if_neg (show ¬ c = 237 by omega), if_neg (show ¬ c = 244 by omega)]
  rw [if_neg c1] at hn
  by_cases c2 : 194 ≤ c ∧ c ≤ 223
  · refine ⟨decide_eq_true (by omega), ?_⟩
    simp only [if_neg c1, if_pos c2, if_neg (show ¬ c < 194 by omega), if_pos (show c < 224 by omega), if_neg (show ¬ c = 224 by omega), if_neg (show ¬ c = 240 by omega), if_neg (show ¬ c = 237 by omega), if_neg (show ¬ c = 244 by omega)]
  rw [if_neg c2] at hn
  by_cases c3 : 224 ≤ c ∧ c ≤ 239
  · refine ⟨decide_eq_true (by omega), ?_⟩
    simp only [if_neg c1, if_neg c2, if_pos c3, if_neg (show ¬ c < 194 by omega), if_neg (show ¬ c < 224 by omega), if_pos (show c < 240 by omega), if_neg (show ¬ c = 240 by omega), if_neg (show ¬ c = 244 by omega)]
  rw [if_neg c3] at hn
  by_cases c4 : 240 ≤ c ∧ c ≤ 244
  · refine ⟨decide_eq_true (by omega), ?_⟩
    simp only [if_neg c1, if_neg c2, if_neg c3, if_pos c4, if_neg (show ¬ c < 194 by omega), if_neg (show ¬ c < 224 by omega), if_neg (show ¬ c < 240 by omega), if_pos (show c < 245 by omega), if_neg (show ¬ c = 224 by omega), if_neg (show ¬ c = 237 by omega)]
  · exact absurd (if_neg c4) hn
theorem begin_none (d : Dec) (c : Int) (h0 : 0 ≤ c) (hn : needOf c = 0) : begOk c = false ∧ ∃ l u, d.begin c = ⟨d.at_, d.have_, d.need, l, u, d.r⟩ := by
  unfold needOf at hn
  have hc : ¬ c < 128 := fun h => by rw [if_pos h] at hn; omega
  rw [if_neg hc] at hn
  have hc2 : ¬ (194 ≤ c ∧ c ≤ 223) := fun h => by rw [if_pos h] at hn; omega
  rw [if_neg hc2] at hn
  have hc3 : ¬ (224 ≤ c ∧ c ≤ 239) := fun h => by rw [if_pos h] at hn; omega
  rw [if_neg hc3] at hn
  have hc4 : ¬ (240 ≤ c ∧ c ≤ 244) := fun h => by rw [if_pos h] at hn; omega
  refine ⟨decide_eq_false (by omega), 128, 191, ?_⟩
  unfold Dec.begin
  rw [if_neg hc]
  by_cases c1 : c < 194
  · rw [if_pos c1]
  · rw [if_neg c1, if_neg (by omega), if_neg (by omega), if_neg (by omega)]

def mid (b : Int → Int) (p N : Int) (j : Nat) (cs : List S36) (fs : List S39) : St :=
  ⟨⟨p, j, N, if j = 1 then lowOf (b 0) else 128, if j = 1 then highOf (b 0) else 191, acc b j⟩, cs, fs⟩

theorem res_zero (a n l u r : Int) (cs : List S36) (fs : List S39) : St.res ⟨⟨a, 0, n, l, u, r⟩, cs, fs⟩ = (cs, fs) := by
  simp [St.res, Dec.endC, Dec.endF]

theorem ok_mid (b : Int → Int) (j : Nat) (hj : 1 ≤ j) : okAt b j ↔ ¬ (b j < (if j = 1 then lowOf (b 0) else 128) ∨ (if j = 1 then highOf (b 0) else 191) < b j) := by
  unfold okAt
  by_cases h : j = 1
  · subst h
    simp only [if_true, Int.natCast_one]
    show lowOf (b 0) ≤ b 1 ∧ b 1 ≤ highOf (b 0) ↔ ¬ (b 1 < lowOf (b 0) ∨ highOf (b 0) < b 1)
    omega
  · rw [if_neg h, if_neg h, if_neg (by omega)]
    omega
theorem step_ok (b : Int → Int) (p N : Int) (j : Nat) (cs : List S36) (fs : List S39) (hj : 1 ≤ j) (hj4 : j ≤ 4) (h : okAt b j) :
    (mid b p N j cs fs).step (b j) = St.fin ⟨⟨p, (j : Int) + 1, N, 128, 191, acc b (j + 1)⟩, cs, fs⟩ := by
  unfold mid
  rw [step_in _ _ _ _ _ _ _ _ _ (by omega) ((ok_mid b j hj).mp h), wrap_id _ (by omega) (by omega), acc_succ b j hj]
  rfl
theorem step_no (b : Int → Int) (p N : Int) (j : Nat) (cs : List S36) (fs : List S39) (hj : 1 ≤ j) (h : ¬ okAt b j) : ∃ n l u r,
    (mid b p N j cs fs).step (b j) = St.step ⟨⟨wrap64 (p + j), 0, n, l, u, r⟩, cs ++ [⟨65533, p, wrap64 (p + j)⟩], fs ++ [⟨1, p⟩]⟩ (b j) := by
  unfold mid
  have h' := Classical.not_not.mp (fun k => h ((ok_mid b j hj).mpr k))
  refine ⟨N, if j = 1 then lowOf (b 0) else 128, if j = 1 then highOf (b 0) else 191, acc b j, ?_⟩
  rw [step_zero]
  exact step_out _ _ _ _ _ _ _ _ _ (by omega) h'
theorem mid_stop (t : ByteArray) (b : Int → Int) (p : Nat) (N : Int) (hN : N ≤ 4) (ht : t.size ≤ 100000) (hp : p ≤ t.size) (hb : ∀ j : Nat, p + j < t.size → bt t ((p + j : Nat) : Int) = b j) (cs : List S36) (fs : List S39)
    (d j : Nat) (hd : N - j = d + 1) (hj : 1 ≤ j) (hpj : p + j ≤ t.size) (hok : ¬ ((j : Int) < ((t.size - p : Nat) : Int) ∧ okAt b j)) : ∃ n l u r e, e = scan b ((t.size - p : Nat) : Int) (d + 1) j ∧
      St.res (goS t (t.size - (p + j)) (p + j) (mid b p N j cs fs)) =
        if e < N then St.res (goS t (t.size - (p + e.toNat)) (p + e.toNat) ⟨⟨p + e, 0, n, l, u, r⟩, cs ++ [⟨65533, p, p + e⟩], fs ++ [⟨1, p⟩]⟩)
        else St.res (goS t (t.size - (p + N.toNat)) (p + N.toNat) ⟨⟨p + N, 0, n, l, u, r⟩, cs ++ [⟨acc b N.toNat, p, p + N⟩], fs⟩) := by
  have hs : scan b ((t.size - p : Nat) : Int) (d + 1) j = (j : Int) := if_neg hok
  have hw : wrap64 ((p : Int) + j) = (p : Int) + j := wrap_id _ (by omega) (by omega)
  by_cases hlt : p + j < t.size
  · obtain ⟨n, l, u, r, h⟩ := step_no b p N j cs fs hj (fun h => hok ⟨by omega, h⟩)
    obtain ⟨m, hm⟩ : ∃ m, t.size - (p + j) = m + 1 := ⟨t.size - (p + j) - 1, by omega⟩
    refine ⟨n, l, u, r, j, hs.symm, ?_⟩
    rw [if_pos (by omega), Int.toNat_natCast, hm]
    show St.res (goS t m (p + j + 1) ((mid b p N j cs fs).step (bt t ((p + j : Nat) : Int)))) = St.res (goS t m (p + j + 1) (St.step _ (bt t ((p + j : Nat) : Int))))
    rw [hb j hlt, h, hw]
  · refine ⟨0, 0, 0, 0, j, hs.symm, ?_⟩
    rw [if_pos (by omega), Int.toNat_natCast, show t.size - (p + j) = 0 by omega]
    rw [go_zero, go_zero, res_zero]
    unfold mid St.res Dec.endC Dec.endF
    simp only []
    rw [if_neg (by omega), if_neg (by omega), hw]
theorem mid_run (t : ByteArray) (b : Int → Int) (p : Nat) (N : Int) (hN : N ≤ 4) (ht : t.size ≤ 100000) (hp : p ≤ t.size) (hb : ∀ j : Nat, p + j < t.size → bt t ((p + j : Nat) : Int) = b j) (cs : List S36) (fs : List S39) :
    ∀ (d j : Nat), N - j = d + 1 → 1 ≤ j → p + j ≤ t.size → ∃ n l u r e, e = scan b ((t.size - p : Nat) : Int) (d + 1) j ∧
      St.res (goS t (t.size - (p + j)) (p + j) (mid b p N j cs fs)) =
        if e < N then St.res (goS t (t.size - (p + e.toNat)) (p + e.toNat) ⟨⟨p + e, 0, n, l, u, r⟩, cs ++ [⟨65533, p, p + e⟩], fs ++ [⟨1, p⟩]⟩)
        else St.res (goS t (t.size - (p + N.toNat)) (p + N.toNat) ⟨⟨p + N, 0, n, l, u, r⟩, cs ++ [⟨acc b N.toNat, p, p + N⟩], fs⟩) := by
  intro d
  induction d with
  | zero =>
    intro j hd hj hpj
    by_cases hok : (j : Int) < ((t.size - p : Nat) : Int) ∧ okAt b j
    · obtain ⟨m, hm⟩ : ∃ m, t.size - (p + j) = m + 1 := ⟨t.size - (p + j) - 1, by omega⟩
      have hs : scan b ((t.size - p : Nat) : Int) (0 + 1) j = (j : Int) + 1 := if_pos hok
      have hj1 : (j : Int) + 1 = N := by omega
      refine ⟨N, 128, 191, acc b (j + 1), _, hs.symm, ?_⟩
      rw [if_neg (by omega), hm]
      show St.res (goS t m (p + j + 1) ((mid b p N j cs fs).step (bt t ((p + j : Nat) : Int)))) = _
      rw [hb j (by omega), step_ok b p N j cs fs hj (by omega) hok.2, hj1]
      have e1 : t.size - (p + N.toNat) = m := by omega
      have e2 : p + j + 1 = p + N.toNat := by omega
      have e3 : N.toNat = j + 1 := by omega
      rw [e1, e2, e3]
      unfold St.fin
      rw [if_pos rfl]
      unfold St.tell Dec.told
      simp only []
      rw [wrap_id _ (by omega) (by omega)]
    · exact mid_stop t b p N hN ht hp hb cs fs 0 j hd hj hpj hok
  | succ d ih =>
    intro j hd hj hpj
    by_cases hok : (j : Int) < ((t.size - p : Nat) : Int) ∧ okAt b j
    · obtain ⟨m, hm⟩ : ∃ m, t.size - (p + j) = m + 1 := ⟨t.size - (p + j) - 1, by omega⟩
      obtain ⟨n, l, u, r, e, he, h⟩ := ih (j + 1) (by omega) (by omega) (by omega)
      have hs : scan b ((t.size - p : Nat) : Int) (d + 1 + 1) j = scan b ((t.size - p : Nat) : Int) (d + 1) ((j : Int) + 1) := if_pos hok
      refine ⟨n, l, u, r, e, by rw [hs, he]; rfl, ?_⟩
      rw [← h, hm]
      show St.res (goS t m (p + j + 1) ((mid b p N j cs fs).step (bt t ((p + j : Nat) : Int)))) = _
      rw [hb j (by omega), step_ok b p N j cs fs hj (by omega) hok.2]
      have e1 : t.size - (p + (j + 1)) = m := by omega
      rw [e1]
      unfold St.fin
      rw [if_neg (by simp only []; omega)]
      unfold mid
      rw [if_neg (by omega), if_neg (by omega)]
      rfl
    · exact mid_stop t b p N hN ht hp hb cs fs (d + 1) j hd hj hpj hok

theorem bt_extract (t : ByteArray) (p : Nat) (j : Nat) (h : p + j < t.size) : bt (t.extract p t.size) j = bt t ((p + j : Nat) : Int) := by
  have h1 : j < (t.extract p t.size).size := by rw [ByteArray.size_extract]; omega
  unfold bt
  rw [dif_pos (by simpa using h1), dif_pos (show ((p + j : Nat) : Int).toNat < t.size by rw [Int.toNat_natCast]; exact h)]
  simp only [Int.toNat_natCast]
  rw [ByteArray.getElem_extract]

theorem scan_one (b : Int → Int) (size : Int) (d : Nat) : 1 ≤ scan b size d 1 := (scan_le b size d 1).1

set_option maxHeartbeats 1000000 in
theorem decode_go (t : ByteArray) (ht : t.size ≤ 100000) : ∀ (m p : Nat), m = t.size - p → p ≤ t.size → ∀ (n l u r : Int) (cs : List S36) (fs : List S39), cs.length ≤ p → fs.length ≤ p → ∀ k, m + 40 ≤ k →
    taffrailref03_Decode.l0 k (t.extract p t.size) p cs fs = some (St.res (goS t m p ⟨⟨p, 0, n, l, u, r⟩, cs, fs⟩)) := by
  intro m
  induction m using Nat.strongRecOn with
  | _ m ih =>
  intro p hm hp n l u r cs fs hcs hfs k hk
  obtain ⟨k, rfl⟩ : ∃ j, k = j + 1 := ⟨k - 1, by omega⟩
  have hsz : (t.extract p t.size).size = t.size - p := by rw [ByteArray.size_extract]; omega
  simp only [taffrailref03_Decode.l0]
  by_cases h0 : p = t.size
  · rw [if_neg (by omega), show m = 0 by omega]
    rw [go_zero, res_zero]
  rw [if_pos (by omega), one_some _ k (by omega) (by omega)]
  simp only [Option.bind_some]
  have hb : ∀ j : Nat, p + j < t.size → bt t ((p + j : Nat) : Int) = bt (t.extract p t.size) j := fun j h => (bt_extract t p j h).symm
  have hr : ∀ i, 0 ≤ bt (t.extract p t.size) i ∧ bt (t.extract p t.size) i ≤ 255 := fun i => bt_range _ i
  generalize hB : bt (t.extract p t.size) = b at *
  have hext : ∀ e : Nat, e ≤ t.size - p → (t.extract p t.size).extract e (t.extract p t.size).size = t.extract (p + e) t.size := by
    intro e he
    rw [ByteArray.extract_extract, hsz]
    congr 1
    omega
  obtain ⟨m, rfl⟩ : ∃ j, m = j + 1 := ⟨m - 1, by omega⟩
  have hstep0 : goS t (m + 1) p ⟨⟨p, 0, n, l, u, r⟩, cs, fs⟩ = goS t m (p + 1) (St.start ⟨⟨p, 0, n, l, u, r⟩, cs, fs⟩ (b 0)) := by
    show goS t m (p + 1) (St.step _ (bt t (p : Int))) = _
    have := hb 0 (by omega)
    simp only [Nat.add_zero] at this
    rw [this, step_zero]
    rfl
  rw [hstep0, hsz]
  unfold oneOf
  have hnr := need_range (b 0)
  by_cases hn : needOf (b 0) = 0
  · rw [if_pos hn]
    simp only []
    rw [if_pos (by omega), if_pos (by omega), if_pos (by omega), if_pos (by omega), if_pos (by omega), wrap_id _ (by omega) (by omega)]
    obtain ⟨hk0, l', u', hbg⟩ := begin_none ⟨p, 0, n, l, u, r⟩ (b 0) (hr 0).1 hn
    have e1 := hext 1 (by omega)
    rw [hsz] at e1
    show taffrailref03_Decode.l0 k ((t.extract p t.size).extract 1 (t.size - p)) _ _ _ = _
    rw [e1]
    have h := ih m (by omega) (p + 1) (by omega) (by omega) n l' u' r (cs ++ [⟨65533, p, (p : Int) + 1⟩]) (fs ++ [⟨1, p⟩]) (by simp; omega) (by simp; omega) k (by omega)
    have ec : ((p + 1 : Nat) : Int) = (p : Int) + 1 := by omega
    rw [ec] at h
    rw [h]
    unfold St.start
    rw [if_neg (by rw [hk0]; simp), hbg]
    unfold St.bad Dec.told
    simp only []
    rw [wrap_id _ (by omega) (by omega)]
  rw [if_neg hn]
  obtain ⟨hk1, hbg⟩ := begin_need ⟨p, 0, n, l, u, r⟩ (b 0) (hr 0).1 (hr 0).2 hn
  have hst : St.start ⟨⟨p, 0, n, l, u, r⟩, cs, fs⟩ (b 0) = St.fin (mid b p (needOf (b 0)) 1 cs fs) := by
    unfold St.start
    rw [if_pos hk1, hbg]
    rfl
  rw [hst]
  generalize hN : needOf (b 0) = N at *
  have full : ∀ n l u r, taffrailref03_Decode.l0 k (t.extract (p + N.toNat) t.size) ((p : Int) + N) (cs ++ [⟨acc b N.toNat, p, (p : Int) + N⟩]) fs = some (St.res (goS t (t.size - (p + N.toNat)) (p + N.toNat) ⟨⟨(p : Int) + N, 0, n, l, u, r⟩, cs ++ [⟨acc b N.toNat, p, (p : Int) + N⟩], fs⟩)) ∨ t.size < p + N.toNat := by
    intro n l u r
    by_cases hle : p + N.toNat ≤ t.size
    · left
      have h := ih (t.size - (p + N.toNat)) (by omega) (p + N.toNat) rfl hle n l u r (cs ++ [⟨acc b N.toNat, p, (p : Int) + N⟩]) fs (by simp; omega) (by omega) k (by omega)
      have ec : ((p + N.toNat : Nat) : Int) = (p : Int) + N := by omega
      rw [ec] at h
      exact h
    · right; omega
  have part : ∀ e : Int, 1 ≤ e → e ≤ ((t.size - p : Nat) : Int) → ∀ n l u r, taffrailref03_Decode.l0 k (t.extract (p + e.toNat) t.size) ((p : Int) + e) (cs ++ [⟨65533, p, (p : Int) + e⟩]) (fs ++ [⟨1, p⟩]) = some (St.res (goS t (t.size - (p + e.toNat)) (p + e.toNat) ⟨⟨(p : Int) + e, 0, n, l, u, r⟩, cs ++ [⟨65533, p, (p : Int) + e⟩], fs ++ [⟨1, p⟩]⟩)) := by
    intro e h1 he n l u r
    have h := ih (t.size - (p + e.toNat)) (by omega) (p + e.toNat) rfl (by omega) n l u r (cs ++ [⟨65533, p, (p : Int) + e⟩]) (fs ++ [⟨1, p⟩]) (by simp; omega) (by simp; omega) k (by omega)
    have ec : ((p + e.toNat : Nat) : Int) = (p : Int) + e := by omega
    rw [ec] at h
    exact h
  have hacc := acc_nonneg b hr N (by omega) (by omega)
  by_cases hN1 : N = 1
  · subst hN1
    have hsc : scan b ((t.size - p : Nat) : Int) ((1 : Int) - 1).toNat 1 = 1 := rfl
    unfold oneRes
    rw [hsc, if_neg (show ¬ (1 : Int) < 1 by omega)]
    simp only []
    rw [if_neg (by omega), if_pos (by omega), if_pos (by omega), if_pos (by omega), wrap_id _ (by omega) (by omega)]
    have e1 := hext 1 (by omega)
    rw [hsz] at e1
    show taffrailref03_Decode.l0 k ((t.extract p t.size).extract 1 (t.size - p)) _ _ _ = _
    rw [e1]
    rcases full 1 (lowOf (b 0)) (highOf (b 0)) (acc b 1) with h | h
    · have e2 : t.size - (p + (1 : Int).toNat) = m := by show t.size - (p + 1) = m; omega
      rw [e2] at h
      refine Eq.trans h ?_
      unfold St.fin mid
      rw [if_pos rfl]
      unfold St.tell Dec.told
      simp only [if_true]
      rw [wrap_id _ (by omega) (by omega)]
      rfl
    · exfalso; have : t.size < p + 1 := h; omega
  · have hfin : St.fin (mid b p N 1 cs fs) = mid b p N 1 cs fs := by
      unfold St.fin
      rw [if_neg (by unfold mid; simp only []; omega)]
    rw [hfin]
    obtain ⟨n', l', u', r', e, he, h⟩ := mid_run t b p N (by omega) ht hp hb cs fs (N - 2).toNat 1 (by omega) (by omega) (by omega)
    have e0 : t.size - (p + 1) = m := by omega
    rw [e0] at h
    have hd : (N - 1).toNat = (N - 2).toNat + 1 := by omega
    have he' : scan b ((t.size - p : Nat) : Int) (N - 1).toNat 1 = e := by rw [hd]; exact he.symm
    have hle := scan_le b ((t.size - p : Nat) : Int) (N - 1).toNat 1
    rw [he'] at hle ⊢
    rw [h]
    unfold oneRes
    by_cases hlt : e < N
    · rw [if_pos hlt, if_pos hlt]
      simp only []
      rw [if_pos (by omega), if_pos (by omega), if_pos (by omega), if_pos (by omega), if_pos (by omega), wrap_id _ (by omega) (by omega)]
      have e1 := hext e.toNat (by omega)
      rw [hsz] at e1
      rw [e1]
      exact part e (by omega) (by omega) n' l' u' r'
    · rw [if_neg hlt, if_neg hlt]
      simp only []
      rw [if_neg (by omega), if_pos (by omega), if_pos (by omega), if_pos (by omega), wrap_id _ (by omega) (by omega)]
      have e1 := hext N.toNat (by omega)
      rw [hsz] at e1
      rw [e1]
      rcases full n' l' u' r' with h | h
      · exact h
      · omega

/-- what is told of a text -/
def told (t : ByteArray) : List S36 × List S39 := St.res (St.upto t ⟨⟨0, 0, 0, 0, 0, 0⟩, [], []⟩ t.size)

theorem ref_some (t : ByteArray) (ht : t.size ≤ 100000) (k : Nat) (hk : t.size + 40 ≤ k) : taffrailref03_Decode.f k t 0 = some (told t) := by
  have h := decode_go t ht t.size 0 (by omega) (by omega) 0 0 0 0 [] [] (by simp) (by simp) k (by omega)
  have e : t.extract 0 t.size = t := by simp
  rw [e] at h
  unfold told
  rw [upto_go]
  exact h
end Go.Proofs.Ytdmkhcmkfhojgaa.Pure
