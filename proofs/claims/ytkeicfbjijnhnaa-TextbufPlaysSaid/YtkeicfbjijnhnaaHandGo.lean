/- textbuf: Splice. -/
import Derived.Test.YtkeicfbjijnhnaaHandSplice
import Derived.IntWalk
namespace Go.Proofs.Ytkeicfbjijnhnaa.P
open Go.RowKit Go.Proofs.YtkeicfbjijnhnaaW.PrintWords Go.Proofs.YtkeicfbjijnhnaaW.PrintLast Go.Proofs.YtkeicfbjijnhnaaW.PrintMore Go.Proofs.Ytkeicfbjijnhnaa.Shelf Go.Proofs.Ytkeicfbjijnhnaa.Blk
set_option linter.unusedVariables false

theorem cut_in {g : Nat} {A : Option Addr} {c : Nat} {x1 x2 x3 : Value} {P : List (List UInt8)} {okf : Nat → Prop} {W1 W : World} (a b : Int) (hbk : Blk W1 g 57 #[.slice A P.length c, x1, x2, x3]) (hF : Kd.F kP W1 okf A P.length (pn P)) (hW : Below W1.heap.size W1 W) (hl : tl P ≤ 1000000000) (hP : P.length ≤ 1000000000)
    (ha : 0 ≤ a ∧ a ≤ 1000000000) (hb : 0 ≤ b ∧ b ≤ 1000000000) :
    Calls Try.prog 21 #[.pointer (some ⟨g, 0, none⟩), .int .i64 a, .int .i64 b] W fun e w' => ∃ v, e = .returned v ∧ Kd.N kP 53 w' W1.heap.size (fun k => okf k ∨ W1.heap.size ≤ k) v (pn (cutTo P a b P.length)) ∧ (∀ k, v.ownBlock = some k → W.heap.size ≤ k ∧ k < w'.heap.size) ∧ Below W.heap.size W w' ∧ Below W1.heap.size W1 w' := by
  refine (cut_calls g A c x1 x2 x3 P okf a b W (hbk.below hW hbk.lt) (Kd.F_below hF hW) hl hP ha hb).mono ?_
  rintro e w' ⟨v, rfl, hn, hb⟩
  refine ⟨v, rfl, Kd.N_mono (Kd.N_lower hn hW.size) (fun k hk => ?_), fun k hk => ⟨Kd.N_base hn k hk, Kd.N_lt hn k hk⟩, hb, below_then hW hW.size hb⟩
  rcases hk with hk | hk
  · exact .inl hk
  · exact .inr (Nat.le_trans hW.size hk)
/-- the new piece, as it may lie: made behind the call, across it, ahead of it -/
theorem piece_i {w2 : World} {z1 : Nat} {v : Value} (s : ByteArray) (hs : s.size ≤ 1000000000) (hlt : ∀ k, v.ownBlock = some k → k < w2.heap.size) (hz : z1 ≤ w2.heap.size) :
    Kd.F kP ((Lib.bytesWorld w2 5 s).alloc (.cells #[.slice (some ⟨w2.heap.size, 0, none⟩) s.size (grownCap w2 s.size 0 5)] 53)) (fun k => z1 ≤ k ∧ some k ≠ v.ownBlock) (some ⟨(Lib.bytesWorld w2 5 s).heap.size, 0, none⟩) 1 [num s.data.toList] := by
  have hne : ∀ k, w2.heap.size ≤ k → z1 ≤ k ∧ some k ≠ v.ownBlock := fun k hk => ⟨by omega, fun e => by have := hlt k e.symm; omega⟩
  refine F_one (Blk.new _ _ _) (Kd.FK_mono (FK_mk (by rw [num_length, bytes_size]) (grownCap_ge _ _ _ _) (Kd.F_alloc (F_bytes w2 s (by omega)) _)) (fun k hk => hne k (by omega))) (hne _ ?_)
  rw [Lib.bytesWorld_size]
  omega
theorem piece_ii {W w2 : World} {z1 : Nat} {v : Value} (s : ByteArray) (hs : s.size ≤ 1000000000) (hb : Below (Lib.bytesWorld W 5 s).heap.size (Lib.bytesWorld W 5 s) w2) (hlt : ∀ k, v.ownBlock = some k → (Lib.bytesWorld W 5 s).heap.size ≤ k ∧ k < w2.heap.size) (hz : z1 ≤ W.heap.size) :
    Kd.F kP (w2.alloc (.cells #[.slice (some ⟨W.heap.size, 0, none⟩) s.size (grownCap W s.size 0 5)] 53)) (fun k => z1 ≤ k ∧ some k ≠ v.ownBlock) (some ⟨w2.heap.size, 0, none⟩) 1 [num s.data.toList] := by
  have hsz := Lib.bytesWorld_size W 5 s
  have hs2 := hb.size
  refine F_one (Blk.new _ _ _) (Kd.FK_mono (FK_mk (by rw [num_length, bytes_size]) (grownCap_ge _ _ _ _) (Kd.F_alloc (Kd.F_below (F_bytes W s (by omega)) hb) _)) (fun k hk => ?_)) ⟨by omega, fun e => by have := hlt _ e.symm; omega⟩
  subst hk
  exact ⟨hz, fun e => by have := hlt _ e.symm; omega⟩
theorem piece_iii {W w2 : World} {z1 : Nat} {v : Value} (s : ByteArray) (hs : s.size ≤ 1000000000) (hb : Below ((Lib.bytesWorld W 5 s).alloc (.cells #[.slice (some ⟨W.heap.size, 0, none⟩) s.size (grownCap W s.size 0 5)] 53)).heap.size ((Lib.bytesWorld W 5 s).alloc (.cells #[.slice (some ⟨W.heap.size, 0, none⟩) s.size (grownCap W s.size 0 5)] 53)) w2) (hlt : ∀ k, v.ownBlock = some k → ((Lib.bytesWorld W 5 s).alloc (.cells #[.slice (some ⟨W.heap.size, 0, none⟩) s.size (grownCap W s.size 0 5)] 53)).heap.size ≤ k ∧ k < w2.heap.size) (hz : z1 ≤ W.heap.size) :
    Kd.F kP w2 (fun k => z1 ≤ k ∧ some k ≠ v.ownBlock) (some ⟨(Lib.bytesWorld W 5 s).heap.size, 0, none⟩) 1 [num s.data.toList] := by
  have hsz := Lib.bytesWorld_size W 5 s
  have hs2 : ((Lib.bytesWorld W 5 s).alloc (.cells #[.slice (some ⟨W.heap.size, 0, none⟩) s.size (grownCap W s.size 0 5)] 53)).heap.size = (Lib.bytesWorld W 5 s).heap.size + 1 := by simp
  refine Kd.F_below (F_one (Blk.new _ _ _) (Kd.FK_mono (FK_mk (by rw [num_length, bytes_size]) (grownCap_ge _ _ _ _) (Kd.F_alloc (F_bytes W s (by omega)) _)) (fun k hk => ?_)) ⟨by omega, fun e => by have := hlt _ e.symm; omega⟩) hb
  subst hk
  exact ⟨hz, fun e => by have := hlt _ e.symm; omega⟩
theorem bytes_below1 {w W : World} (h : Below w.heap.size w W) (e : TypeId) (s : ByteArray) : Below w.heap.size w (Lib.bytesWorld W e s) := bytes_below h h.size e s
theorem size_alloc {n : Nat} {W : World} {o : Obj} (h : n ≤ W.heap.size) : n ≤ (W.alloc o).heap.size := Nat.le_trans h (by simp)
theorem size_bytes {n : Nat} {W : World} {e : TypeId} {s : ByteArray} (h : n ≤ W.heap.size) : n ≤ (Lib.bytesWorld W e s).heap.size := by rw [Lib.bytesWorld_size]; omega
theorem N_bytes {α : Type} {d : Kd α} {e base : Nat} {w : World} {ok : Nat → Prop} {v : Value} {xs : List α} (h : Kd.N d e w base ok v xs) (t : TypeId) (s : ByteArray) : Kd.N d e (Lib.bytesWorld w t s) base ok v xs := Kd.N_below h (bytes_below (Below.refl _ _) (Nat.le_refl _) t s)
theorem FK_mkR {W : World} {ok : Nat → Prop} {A : Option Addr} {c : Nat} {P : List (List UInt8)} (hf : Kd.F kP W ok A P.length (pn P)) (hc : P.length ≤ c) : Kd.FK kR W ok (pn P) [.slice A P.length c] := by
  have hn : (pn P).length = P.length := List.length_map _
  have := Kd.FK_slice_mk (e := 53) (A := A) (c := c) (l := pn P) (W := W) (ok := ok) (d := kP) (by rw [hn]; exact hc) (by rw [hn]; exact hf)
  rwa [hn] at this
theorem below_mono {B B' : Nat} {w W : World} (h : Below B w W) (hb : B' ≤ B) : Below B' w W := ⟨h.os, h.tape, h.output, h.size, fun k hk => h.block k (Nat.lt_of_lt_of_le hk hb)⟩
theorem info54 : (Try.prog.info? 54).map (fun i => (i.zero, i.size, i.bytes)) = some (some (.slice none 0 0), 1, 24) := by kernel_rfl
theorem cell_grown {W W2 : World} {a : Addr} {v : Value} {row : Option Nat} (hc : W.cell? a = some v) (hg : W.grownBy W2 row) (hne : some a.block ≠ row) : W2.cell? a = some v := by
  have h := hg.block a.block (World.block_lt_of_cell? W a hc) hne
  simpa [World.cell?, h] using hc
theorem splice_len (P : List (List UInt8)) (a d : Int) (s : ByteArray) (h0 : 0 ≤ a) (h1 : a ≤ (tl P : Int)) (h2 : 0 ≤ d) (h3 : d ≤ (tl P : Int) - a) :
    ((tl (cutTo P 0 a P.length ++ [s.data.toList] ++ cutTo P (a + d) (tl P : Int) P.length) : Nat) : Int) = (tl P : Int) + ((s.size : Int) - d) := by
  unfold tl at *
  rw [List.flatten_append, List.flatten_append, List.length_append, List.length_append, cutTo_all P 0 a (by omega) h0, cutTo_all P (a + d) _ (by omega) (by omega)]
  simp only [List.flatten_cons, List.flatten_nil, List.append_nil, bytes_size, List.length_drop, List.length_take]
  omega
theorem splice_end {w W1 wc w10 : World} {base g z : Nat} {ok : Nat → Prop} {P Q : List (List UInt8)} {U : List (List (List UInt8))} {A A9 A10 : Option Addr} {c c9 c10 : Nat} {vu : Value} {most n : Int}
    (hz : w.heap.size = z) (hgz : g < z) (hz1 : W1.heap.size = z + 1) (hbg : base ≤ g) (hgo : ok g) (hvu : ∀ k, vu.ownBlock = some k → k < z) (hvo : ∀ k, vu.ownBlock = some k → ok k ∧ k ≠ g) (hBw : Below z w wc)
    (hk : Blk w10 g 57 #[.slice A P.length c, .int .i64 most, .int .i64 (tl P : Int), vu])
    (hn9 : Kd.N kP 53 wc W1.heap.size (fun k => (ok k ∧ k ≠ g ∧ some k ≠ vu.ownBlock) ∨ W1.heap.size ≤ k) (.slice A9 Q.length c9) (pn Q))
    (hn10 : Kd.N kR 54 w10 base (fun k => (ok k ∧ k ≠ g) ∨ W1.heap.size ≤ k) (.slice A10 (U.map pn ++ [pn P]).length c10) (U.map pn ++ [pn P]))
    (hg10 : wc.drew.grownBy w10 vu.ownBlock) (hat : (Value.slice A10 (U.map pn ++ [pn P]).length c10).ownBlock = vu.ownBlock ∨ ∃ b, (Value.slice A10 (U.map pn ++ [pn P]).length c10).ownBlock = some b ∧ wc.drew.heap.size ≤ b)
    (hbb : Below base w w10) (hn : (tl Q : Int) = n) :
    BufAt (((w10.setCell ⟨g, 3, none⟩ (.slice A10 (U.length + 1) c10)).setCell ⟨g, 0, none⟩ (.slice A9 Q.length c9)).setCell ⟨g, 2, none⟩ (.int .i64 n)).drew base (fun k => ok k ∨ w.heap.size ≤ k) g Q most (U ++ [P])
      ∧ Below base w (((w10.setCell ⟨g, 3, none⟩ (.slice A10 (U.length + 1) c10)).setCell ⟨g, 0, none⟩ (.slice A9 Q.length c9)).setCell ⟨g, 2, none⟩ (.int .i64 n)).drew
      ∧ Kept w (((w10.setCell ⟨g, 3, none⟩ (.slice A10 (U.length + 1) c10)).setCell ⟨g, 0, none⟩ (.slice A9 Q.length c9)).setCell ⟨g, 2, none⟩ (.int .i64 n)).drew ok := by
  have hlen : (U.map pn ++ [pn P]).length = U.length + 1 := by simp
  rw [hlen] at hn10 hat
  have hkeep : Kept w w10 ok := Kept.of_grown hg10 (Kept.drew (Kept.of_below (by rw [hz]; exact hBw) ok)) (fun k hk => .inl (hvo k hk).1)
  refine ⟨⟨A9, c9, .slice A10 (U.length + 1) c10, ?_, (Kd.N_reads' hn9).2.1, ?_, ?_, hbg, .inl hgo⟩, ?_, ?_⟩
  · rw [hn]
    exact ((hk.set_ 3 _).set_ 0 _).set_ 2 _
  · have h1 := Kd.F_drew (Kd.F_mono (Kd.N_F hn9) (ok' := fun k => ((ok k ∨ w.heap.size ≤ k) ∧ k ≠ g) ∧ some k ≠ vu.ownBlock) (fun k hk => by
      rcases hk with hk | hk
      · exact ⟨⟨.inl hk.1, hk.2.1⟩, hk.2.2⟩
      · exact ⟨⟨.inr (by omega), by omega⟩, fun e => by have := hvu k e.symm; omega⟩))
    have h2 := Kd.F_after h1 hg10 hat
    refine Kd.F_mono (Kd.F_drew (Kd.F_far (Kd.F_far (Kd.F_far h2 (fun k hk => hk.1.2) _) (fun k hk => hk.1.2) _) (fun k hk => hk.1.2) _)) (fun k hk => ⟨hk.1.1, hk.1.2, hk.2⟩)
  · have h0 : ∀ k, ((ok k ∧ k ≠ g) ∨ W1.heap.size ≤ k) → k ≠ g := fun k hk => by
      rcases hk with hk | hk
      · exact hk.2
      · omega
    rw [List.map_append]
    exact Kd.N_mono (Kd.N_drew (Kd.N_far (Kd.N_far (Kd.N_far hn10 h0 _) h0 _) h0 _)) (fun k hk => ⟨by
      rcases hk with hk | hk
      · exact .inl hk.1
      · exact .inr (by omega), h0 k hk⟩)
  · exact below_drew1 (((hbb.setCell (p := ⟨g, 3, none⟩) hbg _).setCell (p := ⟨g, 0, none⟩) hbg _).setCell (p := ⟨g, 2, none⟩) hbg _)
  · exact Kept.drew (Kept.setCell (Kept.setCell (Kept.setCell hkeep (p := ⟨g, 3, none⟩) (.inl hgo) _) (p := ⟨g, 0, none⟩) (.inl hgo) _) (p := ⟨g, 2, none⟩) (.inl hgo) _)
section
variable {w : World} {base g : Nat} {ok : Nat → Prop} {P : List (List UInt8)} {most : Int} {U : List (List (List UInt8))}
set_option maxRecDepth 100000 in
set_option maxHeartbeats 1000000 in
theorem splice_go (a d : Int) (s : ByteArray) (h : BufAt w base ok g P most U) (hl : tl P ≤ 1000000000) (hP : P.length ≤ 1000000000) (hU : U.length ≤ 1000000) (r1 : 0 ≤ a) (r2 : a ≤ (tl P : Int)) (r3 : 0 ≤ d) (r4 : d ≤ (tl P : Int) - a) (r5 : (s.size : Int) ≤ most - ((tl P : Int) - d)) (hm : 0 ≤ most ∧ most ≤ 1000000000) :
    Calls Try.prog 11 #[.pointer (some ⟨g, 0, none⟩), .agg #[.int .i64 a, .int .i64 d, .string s]] w fun e w' => e = .returned (.int .i64 0) ∧ BufAt w' base (fun k => ok k ∨ w.heap.size ≤ k) g (cutTo P 0 a P.length ++ [s.data.toList] ++ cutTo P (a + d) (tl P) P.length) most (U ++ [P]) ∧ Below base w w' ∧ Kept w w' ok := by
  obtain ⟨A, c, vu, hb, hc, hF, hN, hg, hgo⟩ := h
  have hb0 := Blk.new w 32 #[.int .i64 a, .int .i64 d, .string s]
  have hb1 := hb.alloc (.cells #[.int .i64 a, .int .i64 d, .string s] 32)
  have HB0 := Aside0.mk (below_alloc (Below.refl w.heap.size w) (.cells #[.int .i64 a, .int .i64 d, .string s] 32))
  have HF := Aside0.mk (Kd.F_below hF HB0.out)
  have HN := Aside0.mk (Kd.N_below hN HB0.out)
  have HVU := Aside0.mk (Kd.N_lt hN)
  have hsz0 : (w.alloc (.cells #[.int .i64 a, .int .i64 d, .string s] 32)).heap.size = w.heap.size + 1 := by simp
  have hglt := hb.lt
  go_enter Try.func11, Try.ntmps11
  go_wp2
  generalize w.alloc (.cells #[.int .i64 a, .int .i64 d, .string s] 32) = w0 at *
  generalize hz : w.heap.size = z at *
  have k0 : w0.cell? ⟨z, 0, none⟩ = some (.int .i64 a) := hb0.cell 0
  have k1 : w0.cell? ⟨z, 1, none⟩ = some (.int .i64 d) := hb0.cell 1
  have k2 : w0.cell? ⟨z, 2, none⟩ = some (.string s) := hb0.cell 2
  have c1 : w0.cell? ⟨g, 1, none⟩ = some (.int .i64 most) := hb1.cell 1
  have c2 : w0.cell? ⟨g, 2, none⟩ = some (.int .i64 (tl P : Int)) := hb1.cell 2
  have HB1 := Aside0.mk hb1
  have HB2 := Aside0.mk hb0
  clear hb hF hN hb0 hb1
  have d1 : decide (a < 0) = false := by simp; omega
  have d2 : decide ((tl P : Int) < a) = false := by simp; omega
  have d3 : decide (d < 0) = false := by simp; omega
  have e1 : IntKind.i64.wrap ((tl P : Int) - a) = (tl P : Int) - a := IntWalk.i64_in _ (by omega)
  have d4 : decide ((tl P : Int) - a < d) = false := by simp; omega
  have e2 : IntKind.i64.wrap ((tl P : Int) - d) = (tl P : Int) - d := IntWalk.i64_in _ (by omega)
  have e3 : IntKind.i64.wrap (most - ((tl P : Int) - d)) = most - ((tl P : Int) - d) := IntWalk.i64_in _ (by omega)
  have d5 : decide (most - ((tl P : Int) - d) < s.size) = false := by simp; omega
  have R := Aside0.mk (And.intro r1 (And.intro r2 (And.intro r3 (And.intro r4 r5))))
  clear r1 r2 r3 r4 r5
  go_quiet (fail)
  go_wp2
  go_quiet (fail)
  go_wp2
  generalize hW1 : World.drewN (World.drewN w0 _) _ = W1
  have k0 : W1.cell? ⟨z, 0, none⟩ = some (.int .i64 a) := by rw [← hW1]; exact HB2.out.cell 0
  have k1 : W1.cell? ⟨z, 1, none⟩ = some (.int .i64 d) := by rw [← hW1]; exact HB2.out.cell 1
  have k2 : W1.cell? ⟨z, 2, none⟩ = some (.string s) := by rw [← hW1]; exact HB2.out.cell 2
  have HB3k : Aside0 (W1.cell? ⟨z, 0, none⟩ = some (.int .i64 a) ∧ W1.cell? ⟨z, 1, none⟩ = some (.int .i64 d) ∧ W1.cell? ⟨z, 2, none⟩ = some (.string s)) := ⟨k0, k1, k2⟩
  have HZ1 : Aside0 (W1.heap.size = z + 1) := ⟨by rw [← hW1]; exact hsz0⟩
  have HB3 : Aside0 (Below z w W1) := ⟨by rw [← hW1]; exact pw_below_drewN (pw_below_drewN HB0.out _) _⟩
  have HB4 : Aside0 (Blk W1 g 57 #[.slice A P.length c, .int .i64 most, .int .i64 (tl P : Int), vu]) := ⟨by rw [← hW1]; exact HB1.out⟩
  have HF1 : Aside0 (Kd.F kP W1 (fun k => ok k ∧ k ≠ g ∧ some k ≠ vu.ownBlock) A P.length (pn P)) := ⟨by rw [← hW1]; exact HF.out⟩
  have HN1 : Aside0 (Kd.N kR 54 W1 base (fun k => ok k ∧ k ≠ g) vu (U.map pn)) := ⟨by rw [← hW1]; exact HN.out⟩
  have kb := fun W => print_bytes (P := Try.prog) 9 53 5 Try.underlying9 Try.underlying53 Try.underlying5 s W
  clear hW1 HB1 HB2 HF HN HB0 hsz0 c1 c2 d1 d2 d3 d4 d5 e1 e2 e3
  have hs : s.size ≤ 1000000000 := by have := R.out; omega
  have b0 : (Lib.bytesWorld W1.drew 5 s).cell? ⟨z, 0, none⟩ = some (.int .i64 a) := pw_cell_below (w := W1) (bytes_below1 (below_drew1 (Below.refl _ _)) 5 s) k0
  have bz : z < (Lib.bytesWorld W1.drew 5 s).heap.size := by
    have h1 := Lib.bytesWorld_size W1.drew 5 s
    have h2 : W1.drew.heap.size = W1.heap.size := rfl
    have := HZ1.out
    omega
  go_cut [5] (fun v5 wc => Aside0 (Kd.N kP 53 wc W1.heap.size (fun k => (ok k ∧ k ≠ g ∧ some k ≠ vu.ownBlock) ∨ W1.heap.size ≤ k) v5 (pn (cutTo P 0 a P.length ++ [s.data.toList]))) ∧ Aside0 (Below W1.heap.size W1 wc))
  case first =>
    go_region_law (first
      | (refine goes_ Try.func21 (by kernel_rfl) rfl #[.pointer (some ⟨g, 0, none⟩), .int .i64 0, .int .i64 a] (by rfl) rfl rfl (by simp only [List.map_toArray, List.map_cons, List.map_nil]; rfl) ?_; refine (cut_in 0 a HB4.out HF1.out ?hW hl hP ⟨by omega, by omega⟩ (by have := R.out; omega)).mono ?_; (case hW => (with_reducible repeat (first | apply below_alloc | apply bytes_below1 | apply pw_below_drewN | apply below_drew1)); exact Below.refl _ _); rintro e w2 ⟨v, rfl, hn2, hv2, hb2, hb3⟩; refine ⟨_, rfl, ?_⟩; have q0 := pw_cell_below hb3 k0; have q1 := pw_cell_below hb3 k1; have q2 := pw_cell_below hb3 k2; have HB5 := Aside0.mk hb3; clear hb3; have HN2 := Aside0.mk hn2; have HV2 := Aside0.mk hv2; have HL2 := Aside0.mk hb2; clear hn2 hv2 hb2)
      | (refine Kd.N_append_rows_step kP (w0 := W1) W1.heap.size rfl (.tmp 59) (.tmp 63) 54 53 (.slice none 0 0) 24 rfl Try.underlying54 info53 rfl (by decide) (by decide) v (pn (cutTo P 0 a P.length)) [num s.data.toList] _ 1 1 (fun k => (ok k ∧ k ≠ g ∧ some k ≠ vu.ownBlock) ∨ W1.heap.size ≤ k) (fun k => W1.heap.size ≤ k ∧ some k ≠ v.ownBlock) rfl rfl ?aO ?aF ?aK ?aN ?aB ?aS ?aL ?_; (case aO => (with_reducible repeat (first | apply Kd.N_alloc | apply N_bytes)); exact HN2.out); (case aF => first | exact piece_i s hs (fun k hk => (HV2.out k hk).2) HB5.out.size | exact piece_ii s hs HL2.out HV2.out (Nat.le_refl _) | exact piece_iii s hs HL2.out HV2.out (Nat.le_refl _)); (case aK => exact fun k hk => ⟨.inr hk.1, hk.2⟩); (case aN => exact fun k hk => .inr (Nat.le_trans (by (with_reducible repeat (first | apply size_alloc | apply size_bytes)); exact HB5.out.size) hk)); (case aB => (with_reducible repeat (first | apply below_alloc | apply bytes_below1)); exact HB5.out); (case aS => (with_reducible repeat (first | apply size_alloc | apply size_bytes)); exact HB5.out.size); (case aL => have := cutTo_le P 0 a P.length; simp only [List.length_map]; omega); intro v3 w3 hn3 hb3 hg3 hat3; have HN3 := Aside0.mk hn3; have HB6 := Aside0.mk hb3; clear hn3 hb3 hg3 hat3))
    all_goals (go_wp2; go_meet; case rel => exact ⟨⟨by rw [pn_append]; exact HN3.out⟩, HB6⟩)
  case rest =>
    obtain ⟨HN3, HB6⟩ := hcut
    have k0 := pw_cell_below HB6.out k0
    have k1 := pw_cell_below HB6.out k1
    have k2 := pw_cell_below HB6.out k2
    have HB7 := Aside0.mk (HB4.out.below HB6.out HB4.out.lt)
    have HF3 := Aside0.mk (Kd.F_old HF1.out HB6.out)
    have c2 : wc.cell? ⟨g, 2, none⟩ = some (.int .i64 (tl P : Int)) := HB7.out.cell 2
    have e4 : IntKind.i64.wrap (a + d) = a + d := IntWalk.i64_in _ (by have := R.out; omega)
    clear b0 bz kb
    go_upto_region 8 with (fail)
    go_cut [5] (fun v5 wd => ∃ A8 c8, v5 = .slice A8 (cutTo P 0 a P.length ++ [s.data.toList] ++ cutTo P (a + d) (tl P : Int) P.length).length c8 ∧ Aside0 (Kd.N kP 53 wd W1.heap.size (fun k => (ok k ∧ k ≠ g ∧ some k ≠ vu.ownBlock) ∨ W1.heap.size ≤ k) v5 (pn (cutTo P 0 a P.length ++ [s.data.toList] ++ cutTo P (a + d) (tl P : Int) P.length))) ∧ Aside0 (Below W1.heap.size W1 wd))
    case first =>
      have hcle := cutTo_le P 0 a P.length
      have hcle2 := cutTo_le P (a + d) (tl P : Int) P.length
      go_region_law (first
        | (refine goes_ Try.func21 (by kernel_rfl) rfl #[.pointer (some ⟨g, 0, none⟩), .int .i64 (a + d), .int .i64 (tl P : Int)] (by rfl) rfl rfl (by simp only [List.map_toArray, List.map_cons, List.map_nil]; rfl) ?_; refine (cut_in (a + d) (tl P : Int) HB7.out HF3.out ?hW hl hP (by have := R.out; omega) ⟨by omega, by omega⟩).mono ?_; (case hW => (with_reducible repeat (first | apply pw_below_drewN | apply below_drew1)); exact Below.refl _ _); rintro e w2 ⟨v, rfl, hn2, hv2, hb2, hb3⟩; refine ⟨_, rfl, ?_⟩; have HN8 := Aside0.mk hn2; have HB8 := Aside0.mk hb3; clear hn2 hv2 hb2 hb3; obtain ⟨A8, c8, rfl⟩ := Kd.N_slice HN8.out; have HF8 := Aside0.mk (Kd.N_F HN8.out); rw [List.length_map] at HF8)
        | (refine Kd.N_append_rows_step kP (w0 := W1) W1.heap.size rfl (.tmp 65) (.tmp 76) 54 53 (.slice none 0 0) 24 rfl Try.underlying54 info53 rfl (by decide) (by decide) u5 (pn (cutTo P 0 a P.length ++ [s.data.toList])) (pn (cutTo P (a + d) (tl P : Int) P.length)) _ _ _ (fun k => (ok k ∧ k ≠ g ∧ some k ≠ vu.ownBlock) ∨ W1.heap.size ≤ k) (fun k => ((ok k ∧ k ≠ g ∧ some k ≠ vu.ownBlock) ∧ k < W1.heap.size) ∨ wc.heap.size ≤ k) rfl rfl ?aO ?aF ?aK ?aN ?aB ?aS ?aL ?_; (case aO => exact Kd.N_below HN3.out HB8.out); (case aF => exact HF8.out); (case aK => exact fun k hk => hk.elim (fun h => ⟨.inl h.1, fun e => by have := Kd.N_base HN3.out k e.symm; have := h.2; omega⟩) (fun h => ⟨.inr (Nat.le_trans HB6.out.size h), fun e => by have := Kd.N_lt HN3.out k e.symm; omega⟩)); (case aN => exact fun k hk => .inr (Nat.le_trans HB6.out.size (Nat.le_trans HB8.out.size hk))); (case aB => exact below_then HB6.out HB6.out.size HB8.out); (case aS => exact Nat.le_trans HB6.out.size HB8.out.size); (case aL => simp only [List.length_map, List.length_append, List.length_cons, List.length_nil]; omega); intro v3 w3 hn3 hb3 hg3 hat3; have HN9 := Aside0.mk hn3; have HB9 := Aside0.mk hb3; clear hn3 hb3 hg3 hat3)
        | (trace_state; fail))
      all_goals (go_wp2; go_meet; case rel => (rw [← pn_append] at HN9; obtain ⟨A9, c9, e9⟩ := Kd.N_slice HN9.out; rw [List.length_map] at e9; exact ⟨A9, c9, e9, HN9, HB9⟩))
    case rest =>
      obtain ⟨A9, c9, rfl, HN9, HB9⟩ := hcut
      generalize hQ : (cutTo P 0 a P.length ++ [s.data.toList] ++ cutTo P (a + d) (tl P : Int) P.length) = Q at *
      have k1 := pw_cell_below HB9.out (HB3k.out.2.1)
      have k2 := pw_cell_below HB9.out (HB3k.out.2.2)
      have HB10 := Aside0.mk (HB4.out.below HB9.out HB4.out.lt)
      have c0 : wc.cell? ⟨g, 0, none⟩ = some (.slice A P.length c) := HB10.out.cell 0
      have c3 : wc.cell? ⟨g, 3, none⟩ = some vu := HB10.out.cell 3
      have HNu := Aside0.mk (Kd.N_mono (Kd.N_below HN1.out HB9.out) (fun k hk => .inl hk : ∀ k, (ok k ∧ k ≠ g) → (ok k ∧ k ≠ g) ∨ W1.heap.size ≤ k))
      have HFu := Aside0.mk (FK_mkR (Kd.F_below HF1.out HB9.out) hc)
      have HBw := Aside0.mk (below_then HB3.out (by have := HZ1.out; omega) HB9.out)
      have hbz : base ≤ z := by omega
      have HBb : Aside0 (Below base w wc) := ⟨below_mono HBw.out hbz⟩
      have hgu := Kd.N_away HN1.out (fun k hk => hk.2)
      have HGU := Aside0.mk hgu
      have hgz : g ≠ z := by omega
      have hzg : z ≠ g := by omega
      have hgw : g < wc.heap.size := HB10.out.lt
      have e6 : IntKind.i64.wrap ((s.size : Int) - d) = (s.size : Int) - d := IntWalk.i64_in _ (by have := R.out; omega)
      have e7 : IntKind.i64.wrap ((tl P : Int) + ((s.size : Int) - d)) = (tl P : Int) + ((s.size : Int) - d) := IntWalk.i64_in _ (by have := R.out; omega)
      have hzu : some z ≠ vu.ownBlock := fun e => by have := HVU.out z e.symm; omega
      have HZU := Aside0.mk hzu
      clear hzu hgu e4 c2
      go_upto_region 9 with (fail)
      go_region_law (first
        | (refine Kd.N_append_step kR (w0 := w) (W := wc.drew) base rfl (.tmp 82) (.tmp 87) 55 54 (.slice none 0 0) 24 rfl Try.underlying55 info54 rfl (by decide) (by decide) vu (U.map pn) (pn P) [.slice A P.length c] (fun k => (ok k ∧ k ≠ g) ∨ W1.heap.size ≤ k) (fun k => ok k ∧ k ≠ g ∧ some k ≠ vu.ownBlock) rfl rfl ?aP ?aK ?aN ?aO ?aB ?aS ?aL ?_; (case aP => exact HFu.out); (case aK => exact fun k hk => ⟨.inl ⟨hk.1, hk.2.1⟩, hk.2.2⟩); (case aN => exact fun k hk => .inr (Nat.le_trans HB9.out.size hk)); (case aO => exact HNu.out); (case aB => exact below_drew1 HBb.out); (case aS => exact Nat.le_trans hbz (Nat.le_trans (show z ≤ W1.heap.size by have := HZ1.out; omega) HB9.out.size)); (case aL => simp only [List.length_map]; omega); intro v10 w10 hn10 hb10 hg10 hat10; have HN10 := Aside0.mk hn10; have HB11 := Aside0.mk hb10; have HG10 := Aside0.mk hg10; have HA10 := Aside0.mk hat10; have x1 := cell_grown (W := wc.drew) k1 hg10 HZU.out; have x2 := cell_grown (W := wc.drew) k2 hg10 HZU.out; have HK10 := Aside0.mk (Blk.grown (w := wc.drew) HB10.out hg10 HGU.out); have y0 : w10.cell? ⟨g, 0, none⟩ = some (.slice A P.length c) := HK10.out.cell 0; have y2 : w10.cell? ⟨g, 2, none⟩ = some (.int .i64 (tl P : Int)) := HK10.out.cell 2; have y3 : w10.cell? ⟨g, 3, none⟩ = some vu := HK10.out.cell 3; have f3 := HK10.out.frozen 3; have f0 := HK10.out.frozen 0; have f2 := HK10.out.frozen 2; obtain ⟨A10, c10, rfl⟩ := Kd.N_slice hn10; clear hn10 hb10 hg10 hat10)
        | (trace_state; fail))
      all_goals go_wp2
      all_goals go_region
      all_goals go_wp2
      all_goals go_ret
      all_goals
        subst hQ
        exact ⟨rfl, splice_end hz hglt HZ1.out hg hgo HVU.out HN1.out.1 HBw.out HK10.out HN9.out HN10.out HG10.out HA10.out HB11.out (splice_len P a d s R.out.1 R.out.2.1 R.out.2.2.1 R.out.2.2.2.1)⟩
end
end Go.Proofs.Ytkeicfbjijnhnaa.P
