/- textbuf: a buffer as it lies; New, Len, Version, Text, Slice. -/
import Derived.Test.YtkeicfbjijnhnaaHandCut
namespace Go.Proofs.Ytkeicfbjijnhnaa.P
open Go.RowKit Go.Proofs.YtkeicfbjijnhnaaW.PrintWords Go.Proofs.YtkeicfbjijnhnaaW.PrintLast Go.Proofs.YtkeicfbjijnhnaaW.PrintMore Go.Proofs.Ytkeicfbjijnhnaa.Shelf Go.Proofs.Ytkeicfbjijnhnaa.Blk
set_option linter.unusedVariables false

theorem C_num {w : World} {A : Option Addr} {n : Nat} {xs : List Int} (h : ReadsInt w .u8 A n xs) : Kd.C kB w A n xs := by
  refine ⟨h.1, h.2.1, fun hp => ?_⟩
  obtain ⟨ad, e, hc⟩ := h.2.2 hp
  refine ⟨ad, e, fun j p hj => ⟨[.int .u8 p], rfl, rfl, fun i u hu => ?_⟩⟩
  obtain ⟨hjl, hjp⟩ := List.getElem?_eq_some_iff.1 hj
  have hs : kB.sz = 1 := rfl
  have h1 := hc j (by have := h.1; omega)
  rw [List.getD_eq_getElem?_getD, hj] at h1
  match i, hu with
  | 0, hu =>
    simp at hu
    subst hu
    simpa [hs] using h1
theorem num_bytesOf (s : ByteArray) : bytesOf s = num s.data.toList := rfl
theorem bytes_size (s : ByteArray) : s.data.toList.length = s.size := by rw [Array.length_toList]; rfl
theorem F_bytes (w : World) (s : ByteArray) (hs : s.size ≤ 9223372036854775807) : Kd.F kB (Lib.bytesWorld w 5 s) (fun k => k = w.heap.size) (some ⟨w.heap.size, 0, none⟩) s.size (num s.data.toList) := fun W' hW => by
  refine C_num ?_
  have hb := bytes_reads w 5 s hs
  have hsz : w.heap.size < (Lib.bytesWorld w 5 s).heap.size := by rw [Lib.bytesWorld_size]; omega
  have he := hW _ rfl hsz
  refine ⟨hb.1, hb.2.1, fun hp => ?_⟩
  obtain ⟨ad, e, hc⟩ := hb.2.2 hp
  refine ⟨ad, e, fun j hj => ?_⟩
  rw [← num_bytesOf, ← hc j hj]
  injection e with e
  subst e
  simp [World.cell?, add_block, he]
theorem F_one {w : World} {ok : Nat → Prop} {r : Nat} {u : Value} {l : List Int} (hb : Blk w r 53 #[u]) (hk : Kd.FK kP w ok l [u]) (hr : ok r) : Kd.F kP w ok (some ⟨r, 0, none⟩) 1 [l] := fun W' hW => by
  refine ⟨rfl, by omega, fun _ => ⟨_, rfl, fun j p hj => ?_⟩⟩
  match j, hj with
  | 0, hj =>
    simp at hj
    subst hj
    refine ⟨[u], rfl, hk W' hW, fun i u' hi => ?_⟩
    match i, hi with
    | 0, hi =>
      simp at hi
      subst hi
      have h1 : Blk W' r 53 #[u] := (hW r hr hb.lt).trans hb
      simpa [Addr.add] using h1.cell 0

theorem FK_mk {W : World} {ok : Nat → Prop} {A : Option Addr} {c n : Nat} {l : List Int} (hn : l.length = n) (hc : n ≤ c) (hf : Kd.F kB W ok A n l) : Kd.FK kP W ok l [.slice A n c] := by
  subst hn
  exact Kd.FK_slice_mk hc hf
/-- the length of a text in pieces -/
def tl (P : List (List UInt8)) : Nat := P.flatten.length
/-- a buffer: its block g, its pieces P (only read), how many bytes at most, what is behind it U; all in ok -/
def BufAt (w : World) (base : Nat) (ok : Nat → Prop) (g : Nat) (P : List (List UInt8)) (most : Int) (U : List (List (List UInt8))) : Prop :=
  ∃ A c vu, Blk w g 57 #[.slice A P.length c, .int .i64 most, .int .i64 (tl P : Int), vu] ∧ P.length ≤ c ∧ Kd.F kP w (fun k => ok k ∧ k ≠ g ∧ some k ≠ vu.ownBlock) A P.length (pn P) ∧ Kd.N kR 54 w base (fun k => ok k ∧ k ≠ g) vu (U.map pn) ∧ base ≤ g ∧ ok g
section
variable {w w1 : World} {base base' g : Nat} {ok ok' : Nat → Prop} {P : List (List UInt8)} {most : Int} {U : List (List (List UInt8))}
theorem BufAt.mono (h : BufAt w base ok g P most U) (hok : ∀ k, ok k → ok' k) : BufAt w base ok' g P most U := by
  obtain ⟨A, c, vu, hb, hc, hF, hN, hg, hgo⟩ := h
  exact ⟨A, c, vu, hb, hc, Kd.F_mono hF (fun k hk => ⟨hok k hk.1, hk.2⟩), Kd.N_mono hN (fun k hk => ⟨hok k hk.1, hk.2⟩), hg, hok g hgo⟩
theorem BufAt.bound (h : BufAt w base ok g P most U) : BufAt w base (fun k => ok k ∧ k < w.heap.size) g P most U := by
  obtain ⟨A, c, vu, hb, hc, hF, hN, hg, hgo⟩ := h
  exact ⟨A, c, vu, hb, hc, Kd.F_mono (Kd.F_bound hF) (fun k hk => ⟨⟨hk.1.1, hk.2⟩, hk.1.2⟩), Kd.N_mono (Kd.N_bound hN) (fun k hk => ⟨⟨hk.1.1, hk.2⟩, hk.1.2⟩), hg, hgo, hb.lt⟩
theorem BufAt.step (h : BufAt w base ok g P most U) (hm : ∀ k, ok k → k < w.heap.size → w1.heap[k]? = w.heap[k]?) : BufAt w1 base ok g P most U := by
  obtain ⟨A, c, vu, hb, hc, hF, hN, hg, hgo⟩ := h
  exact ⟨A, c, vu, (hm g hgo hb.lt).trans hb, hc, Kd.F_step hF (fun k hk hlt => hm k hk.1 hlt), Kd.N_step hN (fun k hk hlt => hm k hk.1 hlt), hg, hgo⟩
theorem BufAt.below (h : BufAt w base ok g P most U) (hb : Below w.heap.size w w1) : BufAt w1 base ok g P most U := h.step (fun k _ hk => hb.block k hk)
theorem BufAt.lower (h : BufAt w base ok g P most U) (hb : base' ≤ base) : BufAt w base' ok g P most U := by
  obtain ⟨A, c, vu, hbk, hc, hF, hN, hg, hgo⟩ := h
  exact ⟨A, c, vu, hbk, hc, hF, Kd.N_lower hN hb, Nat.le_trans hb hg, hgo⟩
end

theorem below_alloc' {B : Nat} {w W : World} (h : Below B w W) (hB : B ≤ W.heap.size) (o : Obj) : Below B w (W.alloc o) := h.alloc hB o
set_option maxRecDepth 100000 in
theorem new_arg (s : ByteArray) (m : Int) (w : World) (h : m < 0 ∨ 65536 < m) :
    Calls Try.prog 8 #[.string s, .int .i64 m] w fun e w' => e = .returned (.tuple #[.pointer none, .int .i64 3]) ∧ w' = w := by
  by_cases h1 : m < 0
  · go_enter Try.func8, Try.ntmps8
    go_wp2
    go_ret2
    exact ⟨rfl, rfl⟩
  · have h2 : 65536 < m := by omega
    go_enter Try.func8, Try.ntmps8
    go_wp2
    go_ret2
    exact ⟨rfl, rfl⟩
set_option maxRecDepth 100000 in
theorem new_size (s : ByteArray) (m : Int) (w : World) (h0 : 0 ≤ m) (h1 : m ≤ 65536) (h2 : m < s.size) :
    Calls Try.prog 8 #[.string s, .int .i64 m] w fun e w' => e = .returned (.tuple #[.pointer none, .int .i64 2]) ∧ w' = w := by
  have h0' : ¬ m < 0 := by omega
  have h1' : ¬ 65536 < m := by omega
  go_enter Try.func8, Try.ntmps8
  go_wp2
  go_ret2
  exact ⟨rfl, rfl⟩
set_option maxRecDepth 100000 in
theorem new_calls (s : ByteArray) (m : Int) (w : World) (h0 : 0 ≤ m) (h1 : m ≤ 65536) (h2 : s.size ≤ m) :
    Calls Try.prog 8 #[.string s, .int .i64 m] w fun e w' => ∃ g, e = .returned (.tuple #[.pointer (some ⟨g, 0, none⟩), .int .i64 0]) ∧ BufAt w' w.heap.size (fun k => w.heap.size ≤ k) g [s.data.toList] m [] ∧ Below w.heap.size w w' := by
  have h0' : ¬ m < 0 := by omega
  have h1' : ¬ 65536 < m := by omega
  have h2' : ¬ m < s.size := by omega
  have kb := fun W => print_bytes (P := Try.prog) 9 53 5 Try.underlying9 Try.underlying53 Try.underlying5 s W
  go_enter Try.func8, Try.ntmps8
  go_wp2
  go_ret2
  have hlt : w.heap.size < (Lib.bytesWorld w 5 s).heap.size := by rw [Lib.bytesWorld_size]; omega
  have hsz : s.size ≤ 9223372036854775807 := by omega
  generalize hcap : grownCap w s.size 0 5 = cap
  have hcp : s.size ≤ cap := by rw [← hcap]; exact grownCap_ge w s.size 0 5
  have hbB := bytes_below (Below.refl w.heap.size w) (Nat.le_refl _) 5 s
  generalize hW : Lib.bytesWorld w 5 s = W at *
  have hF : Kd.F kB W (fun k => k = w.heap.size) (some ⟨w.heap.size, 0, none⟩) s.size (num s.data.toList) := by rw [← hW]; exact F_bytes w s hsz
  have hlen : (num s.data.toList).length = s.size := by rw [num_length, bytes_size]
  have hb1 : Blk (W.alloc (.cells #[.slice (some ⟨w.heap.size, 0, none⟩) s.size cap] 53)) W.heap.size 53 #[.slice (some ⟨w.heap.size, 0, none⟩) s.size cap] := Blk.new _ _ _
  have hsz1 : (W.alloc (.cells #[.slice (some ⟨w.heap.size, 0, none⟩) s.size cap] 53)).heap.size = W.heap.size + 1 := by simp
  have hb2 := Blk.new (W.alloc (.cells #[.slice (some ⟨w.heap.size, 0, none⟩) s.size cap] 53)) 57 #[.slice (some ⟨W.heap.size, 0, none⟩) 1 1, .int .i64 m, .int .i64 s.size, .slice none 0 0]
  rw [hsz1] at hb2
  have hb1' := hb1.alloc (.cells #[.slice (some ⟨W.heap.size, 0, none⟩) 1 1, .int .i64 m, .int .i64 s.size, .slice none 0 0] 57)
  refine ⟨_, rfl, ⟨some ⟨W.heap.size, 0, none⟩, 1, .slice none 0 0, ?_, by simp, ?_, ?_, ?_, ?_⟩, ?_⟩
  · have : tl [s.data.toList] = s.size := by unfold tl; simp
    rw [this]
    exact hb2
  · refine F_one hb1' ?_ ⟨by omega, by omega, by simp [Value.ownBlock]⟩
    exact Kd.FK_mono (FK_mk hlen hcp (Kd.F_alloc (Kd.F_alloc hF _) _)) (fun k hk => by subst hk; exact ⟨Nat.le_refl _, by omega, by simp [Value.ownBlock]⟩)
  · exact Kd.N_nil _ _ _ _ _
  · omega
  · show w.heap.size ≤ W.heap.size + 1
    omega
  · exact below_alloc' (below_alloc' hbB (by omega) _) (by simp; omega) _

section
variable {w : World} {base g : Nat} {ok : Nat → Prop} {P : List (List UInt8)} {most : Int} {U : List (List (List UInt8))}
set_option maxRecDepth 100000 in
theorem len_calls (h : BufAt w base ok g P most U) :
    Calls Try.prog 19 #[.pointer (some ⟨g, 0, none⟩)] w fun e w' => e = .returned (.int .i64 (tl P : Int)) ∧ w' = w := by
  obtain ⟨A, c, vu, hb, hc, hF, hN, hg, hgo⟩ := h
  have c2 : w.cell? ⟨g, 2, none⟩ = some (.int .i64 (tl P : Int)) := hb.cell 2
  clear hb hF hN
  go_enter Try.func19, Try.ntmps19
  go_wp2
  go_ret
  exact ⟨rfl, rfl⟩
theorem len_nil (w : World) : Calls Try.prog 19 #[.pointer none] w fun e w' => e = .returned (.int .i64 0) ∧ w' = w := by
  go_enter Try.func19, Try.ntmps19
  go_wp2
  go_ret
  exact ⟨rfl, rfl⟩
set_option maxRecDepth 100000 in
theorem version_calls (h : BufAt w base ok g P most U) :
    Calls Try.prog 13 #[.pointer (some ⟨g, 0, none⟩)] w fun e w' => e = .returned (.int .i64 (U.length : Int)) ∧ w' = w := by
  obtain ⟨A, c, vu, hb, hc, hF, hN, hg, hgo⟩ := h
  obtain ⟨Au, cu, rfl⟩ := Kd.N_slice hN
  rw [List.length_map] at hb
  have c2 : w.cell? ⟨g, 3, none⟩ = some (.slice Au U.length cu) := hb.cell 3
  clear hb hF hN
  go_enter Try.func13, Try.ntmps13
  go_wp2
  go_ret
  exact ⟨rfl, rfl⟩
theorem version_nil (w : World) : Calls Try.prog 13 #[.pointer none] w fun e w' => e = .returned (.int .i64 0) ∧ w' = w := by
  go_enter Try.func13, Try.ntmps13
  go_wp2
  go_ret
  exact ⟨rfl, rfl⟩
set_option maxRecDepth 100000 in
theorem text_calls (h : BufAt w base ok g P most U) (hl : tl P ≤ 1000000000) :
    Calls Try.prog 10 #[.pointer (some ⟨g, 0, none⟩)] w fun e w' => e = .returned (.string ⟨P.flatten.toArray⟩) ∧ Below w.heap.size w w' := by
  obtain ⟨A, c, vu, hb, hc, hF, hN, hg, hgo⟩ := h
  have c2 : w.cell? ⟨g, 0, none⟩ = some (.slice A P.length c) := hb.cell 0
  have HC := Aside0.mk (Kd.F_now hF)
  clear hb hF hN
  go_enter Try.func10, Try.ntmps10
  go_wp2_with (go_at_call 20; refine (join_calls A _ c P _ rfl HC.out hl).mono ?_; rintro e w' ⟨rfl, hb⟩)
  go_ret
  exact ⟨rfl, hb⟩
theorem text_nil (w : World) : Calls Try.prog 10 #[.pointer none] w fun e w' => e = .returned (.string ⟨#[]⟩) ∧ w' = w := by
  go_enter Try.func10, Try.ntmps10
  go_wp2
  go_ret
  exact ⟨rfl, rfl⟩
theorem slice_nil (a b : Int) (w : World) : Calls Try.prog 15 #[.pointer none, .int .i64 a, .int .i64 b] w fun e w' => e = .returned (.tuple #[.string ⟨#[]⟩, .int .i64 3]) ∧ w' = w := by
  go_enter Try.func15, Try.ntmps15
  go_wp2
  go_ret2
  exact ⟨rfl, rfl⟩
set_option maxRecDepth 100000 in
theorem slice_range (a b : Int) (h : BufAt w base ok g P most U) (hab : a < 0 ∨ b < a ∨ (tl P : Int) < b) :
    Calls Try.prog 15 #[.pointer (some ⟨g, 0, none⟩), .int .i64 a, .int .i64 b] w fun e w' => e = .returned (.tuple #[.string ⟨#[]⟩, .int .i64 1]) ∧ w' = w := by
  obtain ⟨A, c, vu, hb, hc, hF, hN, hg, hgo⟩ := h
  have c2 : w.cell? ⟨g, 2, none⟩ = some (.int .i64 (tl P : Int)) := hb.cell 2
  clear hb hF hN
  by_cases h1 : a < 0
  · clear hab
    go_enter Try.func15, Try.ntmps15
    go_wp2
    go_ret2
    exact ⟨rfl, rfl⟩
  by_cases h2 : b < a
  · clear hab
    go_enter Try.func15, Try.ntmps15
    go_wp2
    go_ret2
    exact ⟨rfl, rfl⟩
  have h3 : (tl P : Int) < b := by omega
  clear hab
  go_enter Try.func15, Try.ntmps15
  go_wp2
  go_ret2
  exact ⟨rfl, rfl⟩
end

/-- a cut's text is the text's cut -/
theorem part_flat (p : List UInt8) (o : Nat) (a b : Int) (ha : 0 ≤ a) (hab : a ≤ b) : (part p o a b).flatten = (p.take (b - o).toNat).drop (a - o).toNat := by
  unfold part
  split
  · rename_i h
    simp only [List.flatten_cons, List.flatten_nil, List.append_nil]
    have e1 : (max (a - o) 0).toNat = (a - o).toNat := by omega
    rw [e1]
    by_cases hb : (b - o).toNat ≤ p.length
    · rw [show (min (b - o) p.length).toNat = (b - o).toNat by omega]
    · rw [show (min (b - o) p.length).toNat = p.length by omega, List.take_length, List.take_of_length_le (by omega)]
  · rename_i h
    symm
    rw [List.flatten_nil, List.drop_eq_nil_iff, List.length_take]
    omega
theorem cutTo_flat (P : List (List UInt8)) (a b : Int) (ha : 0 ≤ a) (hab : a ≤ b) (k : Nat) (hk : k ≤ P.length) : (cutTo P a b k).flatten = ((upto P k).take b.toNat).drop a.toNat := by
  induction k with
  | zero => simp [cutTo, upto_zero]
  | succ k ih =>
    unfold cutTo
    rw [List.flatten_append, ih (by omega), part_flat _ _ _ _ ha hab, upto_step P k (by omega), List.take_append, List.drop_append]
    congr 1
    rw [List.length_take]
    have e1 : b.toNat - (upto P k).length = (b - ((upto P k).length : Int)).toNat := by omega
    rw [e1]
    by_cases hb : b.toNat ≤ (upto P k).length
    · have h0 : (b - ((upto P k).length : Int)).toNat = 0 := by omega
      rw [h0]
      simp
    · rw [show a.toNat - min b.toNat (upto P k).length = (a - ((upto P k).length : Int)).toNat by omega]
theorem cutTo_all (P : List (List UInt8)) (a b : Int) (ha : 0 ≤ a) (hab : a ≤ b) : (cutTo P a b P.length).flatten = (P.flatten.take b.toNat).drop a.toNat := by
  rw [cutTo_flat P a b ha hab _ (Nat.le_refl _), upto_all]
theorem part_short (p : List UInt8) (o a b : Int) : (part p o a b).length ≤ (part p o a b).flatten.length := by
  unfold part
  split
  · simp; omega
  · simp
theorem cutTo_short (P : List (List UInt8)) (a b : Int) (k : Nat) : (cutTo P a b k).length ≤ (cutTo P a b k).flatten.length := by
  induction k with
  | zero => simp [cutTo]
  | succ k ih =>
    unfold cutTo
    have := part_short (P.getD k []) (upto P k).length a b
    rw [List.length_append, List.flatten_append, List.length_append]
    omega

set_option maxRecDepth 100000 in
theorem slice_calls {w : World} {base g : Nat} {ok : Nat → Prop} {P : List (List UInt8)} {most : Int} {U : List (List (List UInt8))} (a b : Int) (h : BufAt w base ok g P most U) (h0 : 0 ≤ a) (h1 : a ≤ b) (h2 : b ≤ tl P) (hl : tl P ≤ 1000000000) (hP : P.length ≤ 1000000000) :
    Calls Try.prog 15 #[.pointer (some ⟨g, 0, none⟩), .int .i64 a, .int .i64 b] w fun e w' => e = .returned (.tuple #[.string ⟨((P.flatten.take b.toNat).drop a.toNat).toArray⟩, .int .i64 0]) ∧ Below w.heap.size w w' := by
  obtain ⟨A, c, vu, hb, hc, hF, hN, hg, hgo⟩ := h
  have c2 : w.cell? ⟨g, 2, none⟩ = some (.int .i64 (tl P : Int)) := hb.cell 2
  have n1 : ¬ a < 0 := by omega
  have n2 : ¬ b < a := by omega
  have n3 : ¬ (tl P : Int) < b := by omega
  have HB := Aside0.mk hb
  have HF := Aside0.mk hF
  have hcl : (cutTo P a b P.length).flatten.length ≤ 1000000000 := by rw [cutTo_all P a b h0 h1, List.length_drop, List.length_take]; omega
  have hce := cutTo_all P a b h0 h1
  clear hb hF hN
  go_enter Try.func15, Try.ntmps15
  go_wp2_with (first
    | (go_at_call 21; refine (cut_calls g A c _ _ _ P _ a b _ HB.out HF.out hl hP ⟨h0, by omega⟩ ⟨by omega, by omega⟩).mono ?_; rintro e w1 ⟨v, rfl, hn, hb1⟩; have HB1 := Aside0.mk hb1; obtain ⟨A2, cc2, hv, _, hC⟩ := Kd.N_reads hn; rw [List.length_map] at hv hC; subst hv; have HC := Aside0.mk hC; clear hn hC hb1)
    | (go_at_call 20; refine (join_calls A2 _ cc2 (cutTo P a b P.length) _ rfl HC.out hcl).mono ?_; rintro e w' ⟨rfl, hb2⟩; have HB2 := Aside0.mk hb2; clear hb2))
  go_ret2
  exact ⟨rfl, below_same HB1.out ⟨HB2.out.os, HB2.out.tape, HB2.out.output, HB2.out.size, fun i hi => HB2.out.block i (Nat.lt_of_lt_of_le hi HB1.out.size)⟩⟩
end Go.Proofs.Ytkeicfbjijnhnaa.P
