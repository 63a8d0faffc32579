/- The law TextbufBack. -/
import Derived.Test.YtkeicfbjijnhnaaHandRefused
namespace Go.Proofs.Ytkeicfbjijnhnaa.P
open Go.RowKit Go.Proofs.YtkeicfbjijnhnaaW.PrintWords Go.Proofs.YtkeicfbjijnhnaaW.PrintLast Go.Proofs.YtkeicfbjijnhnaaW.PrintMore Go.Proofs.Ytkeicfbjijnhnaa.Shelf Go.Proofs.Ytkeicfbjijnhnaa.Blk
set_option linter.unusedVariables false
theorem info9 : (Try.prog.info? 9).map (fun i => (i.zero, i.size, i.bytes)) = some (some (.string ⟨#[]⟩), 1, 16) := by kernel_rfl
/-- what is known of a buffer that edits have been done to, and of the texts that were -/
def Inv (s : ByteArray) (P : List (List UInt8)) (U : List (List (List UInt8))) (ts : List ByteArray) : Prop :=
  P.length ≤ P.flatten.length + 1 ∧ P.flatten.length ≤ 65536 ∧ (∀ Q ∈ U, Q.length ≤ Q.flatten.length + 1 ∧ Q.flatten.length ≤ 65536) ∧ ts.map (fun t => t.data.toList) = U.map List.flatten ∧ ((U ++ [P]).head?).map List.flatten = some s.data.toList
/-- an edit that can't be done: any other answer than 0, and nothing is touched -/
theorem splice_no {w : World} {base g : Nat} {ok : Nat → Prop} {P : List (List UInt8)} {most : Int} {U : List (List (List UInt8))} (a d : Int) (i : ByteArray) (h : BufAt w base ok g P most U) (hl : P.flatten.length ≤ 65536) (hm : 0 ≤ most ∧ most ≤ 1000000) (hn : ¬ (may P.flatten a d ∧ (i.size : Int) ≤ most - ((P.flatten.length : Int) - d))) :
    Calls Try.prog 11 #[.pointer (some ⟨g, 0, none⟩), .agg #[.int .i64 a, .int .i64 d, .string i]] w fun e w' => ∃ r : Int, e = .returned (.int .i64 r) ∧ r ≠ 0 ∧ Below w.heap.size w w' := by
  have ht : tl P = P.flatten.length := rfl
  by_cases hy : may P.flatten a d
  · have hr : most - ((P.flatten.length : Int) - d) < (i.size : Int) := by
      rcases Int.lt_or_le (most - ((P.flatten.length : Int) - d)) (i.size : Int) with h1 | h1
      · exact h1
      · exact absurd ⟨hy, h1⟩ hn
    obtain ⟨y0, y1, y2, y3⟩ := hy
    refine (splice_size a d i h (by omega) y0 (by omega) y2 (by omega) (by rw [ht]; exact hr) ⟨hm.1, by omega⟩).mono ?_
    rintro e w' ⟨rfl, hb⟩
    exact ⟨2, rfl, by decide, hb⟩
  · refine (splice_range a d i h (by omega) (by unfold may at hy; omega)).mono ?_
    rintro e w' ⟨rfl, hb⟩
    exact ⟨1, rfl, by decide, hb⟩
theorem Inv.push {s : ByteArray} {P Q : List (List UInt8)} {U : List (List (List UInt8))} {ts : List ByteArray} {t : ByteArray} (h : Inv s P U ts) (ht : t.data.toList = P.flatten) (hQ : Q.length ≤ Q.flatten.length + 1) (hQ2 : Q.flatten.length ≤ 65536) : Inv s Q (U ++ [P]) (ts ++ [t]) := by
  obtain ⟨h1, h2, h3, h4, h5⟩ := h
  refine ⟨hQ, hQ2, ?_, ?_, ?_⟩
  · intro R hR
    rcases List.mem_append.1 hR with hR | hR
    · exact h3 R hR
    · rw [List.mem_singleton.1 hR]; exact ⟨h1, h2⟩
  · rw [List.map_append, List.map_append, h4]; simp [ht]
  · rw [← h5]
    cases U <;> simp
theorem Inv.pop {s : ByteArray} {P Q : List (List UInt8)} {U : List (List (List UInt8))} {ts : List ByteArray} {t : ByteArray} (h : Inv s Q (U ++ [P]) (ts ++ [t])) : Inv s P U ts ∧ t.data.toList = P.flatten := by
  obtain ⟨h1, h2, h3, h4, h5⟩ := h
  have hp := h3 P (by simp)
  have hlen : ts.length = U.length := by have := congrArg List.length h4; simpa using this
  rw [List.map_append, List.map_append] at h4
  obtain ⟨e1, e2⟩ := List.append_inj h4 (by simpa using hlen)
  refine ⟨⟨hp.1, hp.2, fun R hR => h3 R (List.mem_append_left _ hR), e1, ?_⟩, by simpa using e2⟩
  rw [← h5]
  cases U <;> simp
theorem Inv.len {s : ByteArray} {P : List (List UInt8)} {U : List (List (List UInt8))} {ts : List ByteArray} (h : Inv s P U ts) : ts.length = U.length := by
  have := congrArg List.length h.2.2.2.1; simpa using this
/-- the buffer, the row of texts apart from it, what stands of the world -/
def St1 (w : World) (s : ByteArray) (g : Nat) (v7 : Value) (wr : World) (P : List (List UInt8)) (U : List (List (List UInt8))) (ts : List ByteArray) : Prop :=
  BufAt wr w.heap.size (fun k => w.heap.size ≤ k ∧ some k ≠ v7.ownBlock) g P 65536 U ∧ Kd.R Kd.string 9 wr w.heap.size (fun k => w.heap.size ≤ k) v7 ts ∧ Inv s P U ts ∧ Below w.heap.size w wr
theorem R_keeps {d : Kd ByteArray} {e : Nat} {w w1 : World} {base : Nat} {ok ok2 : Nat → Prop} {v : Value} {xs : List ByteArray} (hd : d = Kd.string) (h : d.R e w base ok v xs) (hm : ∀ k, v.ownBlock = some k → w1.heap[k]? = w.heap[k]?) : d.R e w1 base ok v xs := by
  subst hd
  obtain ⟨h0, inner, ho, hr⟩ := h
  exact ⟨h0, inner, own_move ho hm, hr.imp_ (fun _ _ hp => hp)⟩
/-- a step that leaves old blocks alone -/
theorem St1.below {w w1 w2 : World} {s : ByteArray} {g : Nat} {v7 : Value} {P : List (List UInt8)} {U : List (List (List UInt8))} {ts : List ByteArray} (h : St1 w s g v7 w1 P U ts) (hb : Below w1.heap.size w1 w2) : St1 w s g v7 w2 P U ts :=
  ⟨h.1.below hb, Kd.R_below h.2.1 hb, h.2.2.1, below_then h.2.2.2 h.2.2.2.size hb⟩
/-- an edit that was done, and the text appended -/
theorem St1.push {w w1 w2 w3 : World} {s : ByteArray} {g : Nat} {v7 v8 : Value} {P Q : List (List UInt8)} {U : List (List (List UInt8))} {ts : List ByteArray} {t : ByteArray} (h : St1 w s g v7 w1 P U ts)
    (hb : BufAt w2 w.heap.size (fun k => (w.heap.size ≤ k ∧ some k ≠ v7.ownBlock) ∨ w1.heap.size ≤ k) g Q 65536 (U ++ [P])) (hbl : Below w.heap.size w1 w2) (hr : Kd.R Kd.string 9 w3 w.heap.size (fun k => w.heap.size ≤ k) v8 (ts ++ [t])) (hg : w2.grownBy w3 v7.ownBlock) (hat : v8.ownBlock = v7.ownBlock ∨ ∃ b, v8.ownBlock = some b ∧ w2.heap.size ≤ b) (hbb : Below w.heap.size w w3)
    (ht : t.data.toList = P.flatten) (hQ : Q.length ≤ Q.flatten.length + 1) (hQ2 : Q.flatten.length ≤ 65536) : St1 w s g v8 w3 Q (U ++ [P]) (ts ++ [t]) := by
  obtain ⟨h1, h2, h3, h4⟩ := h
  have hlt := Kd.R_lt h2
  refine ⟨?_, hr, h3.push ht hQ hQ2, hbb⟩
  have hs := h4.size
  have hne : ∀ k, ((w.heap.size ≤ k ∧ some k ≠ v7.ownBlock) ∨ w1.heap.size ≤ k) → some k ≠ v7.ownBlock := by
    rintro k (hk | hk)
    · exact hk.2
    · intro e; have := hlt k e.symm; omega
  refine (hb.bound.step (fun k hk hlt2 => hg.block k hlt2 (hne k hk.1))).mono ?_
  rintro k ⟨hk, hk2⟩
  refine ⟨by rcases hk with hk | hk; exact hk.1; omega, ?_⟩
  rcases hat with hat | ⟨b, hb, hle⟩
  · rw [hat]; exact hne k hk
  · rw [hb]; intro e; injection e with e; omega
theorem row_kept {w w1 w2 : World} {v7 : Value} {ts : List ByteArray} (hr : Kd.R Kd.string 9 w1 w.heap.size (fun k => w.heap.size ≤ k) v7 ts) (hbw : Below w.heap.size w w1)
    (hbl : Below w.heap.size w1 w2) (hk : Kept w1 w2 (fun k => w.heap.size ≤ k ∧ some k ≠ v7.ownBlock)) :
    Kd.R Kd.string 9 w2 w.heap.size (fun k => w.heap.size ≤ k) v7 ts ∧ Below w.heap.size w w2 := by
  refine ⟨R_keeps rfl (ok2 := fun _ => True) hr (fun k hk2 => hk.2 k (Kd.R_lt hr k hk2) (fun h => h.2 hk2.symm)), below_same hbw hbl⟩
/-- on the way back: U' and ts' are what is left of both -/
def St2 (w : World) (s : ByteArray) (g : Nat) (v7 : Value) (wr : World) (P : List (List UInt8)) (U' : List (List (List UInt8))) (ts' ts : List ByteArray) : Prop :=
  BufAt wr w.heap.size (fun k => w.heap.size ≤ k ∧ some k ≠ v7.ownBlock) g P 65536 U' ∧ Kd.R Kd.string 9 wr w.heap.size (fun k => w.heap.size ≤ k) v7 ts ∧ Inv s P U' ts' ∧ Below w.heap.size w wr
theorem row_cell {w : World} {base : Nat} {ok : Nat → Prop} {v : Value} {ts : List ByteArray} (h : Kd.R Kd.string 9 w base ok v ts) (m : Nat) (hm : m < ts.length) :
    ∃ gw cw, v = .slice (some ⟨gw, 0, none⟩) ts.length cw ∧ w.cell? ⟨gw, m, none⟩ = some (.string ts[m]) := by
  obtain ⟨gw, cw, rfl, _⟩ := Kd.R_form h (by omega)
  obtain ⟨_, _, hC⟩ := Kd.R_reads' h
  obtain ⟨_, _, hr⟩ := Kd.reads_of_C (d := (⟨#[]⟩ : ByteArray)) hC
  obtain ⟨ad, e, hc⟩ := hr (by omega)
  injection e with e
  subst e
  have h1 := hc m hm
  refine ⟨gw, cw, rfl, ?_⟩
  have h2 : (⟨gw, 0, none⟩ : Addr).add m = ⟨gw, m, none⟩ := by
    simp only [Addr.add, Nat.zero_add]
    split
    · rename_i h; rw [h]
    · rfl
  rw [h2] at h1
  rw [h1, List.getD_eq_getElem?_getD, List.getElem?_eq_getElem hm]
  rfl
theorem St2.split {w wr : World} {s : ByteArray} {g : Nat} {v7 : Value} {P : List (List UInt8)} {U' : List (List (List UInt8))} {ts : List ByteArray} {m : Nat} (hm : m < ts.length) (h : St2 w s g v7 wr P U' (ts.take (m + 1)) ts) :
    ∃ U'' P'', U' = U'' ++ [P''] ∧ Inv s P'' U'' (ts.take m) ∧ ts[m].data.toList = P''.flatten ∧ U''.length ≤ m := by
  have hlen := h.2.2.1.len
  rw [List.length_take] at hlen
  have hne : U' ≠ [] := by rintro rfl; rw [List.length_nil] at hlen; omega
  obtain ⟨U'', P'', rfl⟩ : ∃ U'' P'', U' = U'' ++ [P''] := ⟨U'.dropLast, U'.getLast hne, (List.dropLast_concat_getLast hne).symm⟩
  have hi := h.2.2.1
  rw [List.take_succ_eq_append_getElem hm] at hi
  obtain ⟨h1, h2⟩ := hi.pop
  exact ⟨U'', P'', rfl, h1, h2, by simp at hlen; omega⟩
end Go.Proofs.Ytkeicfbjijnhnaa.P
