/- textbuf: a buffer; cut. -/
import Derived.Test.YtkeicfbjijnhnaaHandJoin
import Derived.Test.YtkeicfbjijnhnaaWNEv
import Derived.Test.YtkeicfbjijnhnaaWMore
namespace Go.Proofs.Ytkeicfbjijnhnaa.P
open Go.RowKit Go.Proofs.YtkeicfbjijnhnaaW.PrintWords Go.Proofs.YtkeicfbjijnhnaaW.PrintLast Go.Proofs.YtkeicfbjijnhnaaW.PrintMore Go.Proofs.Ytkeicfbjijnhnaa.Shelf Go.Proofs.Ytkeicfbjijnhnaa.Blk
set_option linter.unusedVariables false

abbrev pn (P : List (List UInt8)) : List (List Int) := P.map num
theorem pn_append (P Q : List (List UInt8)) : pn (P ++ Q) = pn P ++ pn Q := List.map_append
theorem F_P {w : World} {ok : Nat → Prop} {A : Option Addr} {n : Nat} {P : List (List UInt8)} (h : Kd.F kP w ok A n (pn P)) (k : Nat) (hk : k < P.length) :
    ∃ ad A1 c1, A = some ad ∧ w.cell? (ad.add k) = some (.slice A1 (P.getD k []).length c1) ∧ (P.getD k []).length ≤ c1 ∧ Kd.F kB w ok A1 (P.getD k []).length (num (P.getD k [])) := by
  have hn : (pn P).length = n := Kd.F_len h
  rw [List.length_map] at hn
  obtain ⟨ad, c, e, hcl, hK, hcc, _⟩ := Kd.F_get h [] (k : Int) (by omega) (by omega)
  obtain ⟨A1, c1, rfl, hl, hC⟩ := Kd.FK_slice_open hK
  have hx : (pn P).getD (k : Int).toNat [] = num (P.getD k []) := by
    simp [pn, List.getD_eq_getElem?_getD, List.getElem?_eq_getElem hk]
  rw [hx] at hl hC
  rw [num_length] at hl hC
  refine ⟨ad, A1, c1, e, ?_, hl, hC⟩
  have := hcc 0 _ rfl
  rw [hx, num_length] at this
  have hs : kP.sz = 1 := rfl
  simpa [hs] using this

/-- what stays of one piece that begins at byte o -/
def part (p : List UInt8) (o a b : Int) : List (List UInt8) := if max (a - o) 0 < min (b - o) p.length then [(p.take (min (b - o) p.length).toNat).drop (max (a - o) 0).toNat] else []
def cutTo (P : List (List UInt8)) (a b : Int) : Nat → List (List UInt8)
  | 0 => []
  | k + 1 => cutTo P a b k ++ part (P.getD k []) (upto P k).length a b
theorem part_le (p : List UInt8) (o a b : Int) : (part p o a b).length ≤ 1 := by unfold part; split <;> simp
theorem cutTo_le (P : List (List UInt8)) (a b : Int) (k : Nat) : (cutTo P a b k).length ≤ k := by
  induction k with
  | zero => simp [cutTo]
  | succ k ih =>
    unfold cutTo
    have := part_le (P.getD k []) (upto P k).length a b
    rw [List.length_append]
    omega

theorem info53 : (Try.prog.info? 53).map (fun i => (i.zero, i.size, i.bytes)) = some (some (.slice none 0 0), 1, 24) := by kernel_rfl

set_option maxHeartbeats 4000000 in
set_option maxRecDepth 100000 in
theorem cut_calls (g : Nat) (A : Option Addr) (c : Nat) (x1 x2 x3 : Value) (P : List (List UInt8)) (ok : Nat → Prop) (a b : Int) (w : World) (hbk : Blk w g 57 #[.slice A P.length c, x1, x2, x3]) (hF : Kd.F kP w ok A P.length (pn P)) (hl : P.flatten.length ≤ 1000000000) (hP : P.length ≤ 1000000000)
    (ha : 0 ≤ a ∧ a ≤ 1000000000) (hb : 0 ≤ b ∧ b ≤ 1000000000) :
    Calls Try.prog 21 #[.pointer (some ⟨g, 0, none⟩), .int .i64 a, .int .i64 b] w fun e w' => ∃ v, e = .returned v ∧ Kd.N kP 53 w' w.heap.size (fun k => ok k ∨ w.heap.size ≤ k) v (pn (cutTo P a b P.length)) ∧ Below w.heap.size w w' := by
  have HF := Aside0.mk hF
  have c0 : w.cell? ⟨g, 0, none⟩ = some (.slice A P.length c) := hbk.cell 0
  clear hF hbk
  obtain ⟨ha0, ha1⟩ := ha
  obtain ⟨hb0, hb1⟩ := hb
  go_enter Try.func21, Try.ntmps21
  go_wp2
  go_loopw [7, 8, 10, 11, 12, 18] (fun v7 v8 v10 v11 v12 v18 wr => ∃ k : Nat, k ≤ P.length ∧ v18 = .int .i64 (k : Int) ∧ v8 = .int .i64 ((upto P k).length : Int) ∧ Aside0 (Kd.N kP 53 wr w.heap.size (fun k => ok k ∨ w.heap.size ≤ k) v7 (pn (cutTo P a b k))) ∧ Aside0 (Below w.heap.size w wr)) (fun _ _ _ _ _ v18 _ => P.length - (intOf v18).toNat)
  case atStart => exact ⟨0, Nat.zero_le _, rfl, rfl, ⟨Kd.N_nil _ _ _ _ _⟩, ⟨Below.refl _ _⟩⟩
  case round =>
    obtain ⟨k, hk, rfl, rfl, HN, HB⟩ := hrel
    have hle := upto_le P k
    by_cases hlt : k < P.length
    · obtain ⟨ad, A1, c1, e, hx, hc1, hC1⟩ := F_P (Kd.F_old HF.out HB.out) k hlt
      cases e
      have HC := Aside0.mk hC1
      have hstep := upto_step P k hlt
      have hle2 := upto_le P (k + 1)
      have hcl := cutTo_le P a b k
      have hcs : cutTo P a b (k + 1) = cutTo P a b k ++ part (P.getD k []) (upto P k).length a b := rfl
      rw [hstep, List.length_append] at hle2
      generalize hz : P.getD k [] = z at *
      generalize ho : (upto P k).length = o at *
      clear hC1
      have w1 : wrap64 (a - o) = a - o := wrap_id _ (by omega) (by omega)
      have w2 : wrap64 (b - o) = b - o := wrap_id _ (by omega) (by omega)
      by_cases hlow : max (a - o) 0 < min (b - o) z.length
      · have hq : Kd.FK kP wr (fun k => ok k ∧ k < w.heap.size) (num ((z.take (min (b - o) z.length).toNat).drop (max (a - o) 0).toNat)) [.slice (A1.map (·.add (max (a - o) 0).toNat)) ((min (b - o) z.length).toNat - (max (a - o) 0).toNat) ((min (b - o) z.length).toNat - (max (a - o) 0).toNat)] := by
          have hl2 : (num ((z.take (min (b - o) z.length).toNat).drop (max (a - o) 0).toNat)).length = (min (b - o) z.length).toNat - (max (a - o) 0).toNat := by
            rw [num_length, List.length_drop, List.length_take]
            omega
          have hm := Kd.F_mid (lo := (max (a - o) 0).toNat) (hi := (min (b - o) z.length).toNat) (c := c1) (by rw [num_length]; exact HC.out) (by omega) (by rw [num_length]; omega) (by rw [num_length]; exact hc1)
          rw [if_neg (by omega)] at hm
          have e2 : ((num z).take (min (b - o) z.length).toNat).drop (max (a - o) 0).toNat = num ((z.take (min (b - o) z.length).toNat).drop (max (a - o) 0).toNat) := by
            simp [num, List.map_drop, List.map_take]
          rw [e2, show kB.sz = 1 from rfl, Nat.mul_one] at hm
          have := Kd.FK_slice_mk (e := 5) (c := (min (b - o) z.length).toNat - (max (a - o) 0).toNat) (by rw [hl2]; exact Nat.le_refl _) hm
          rwa [hl2] at this
        have HQ := Aside0.mk hq
        clear hq
        have hpart : part z o a b = [(z.take (min (b - o) z.length).toNat).drop (max (a - o) 0).toNat] := by unfold part; rw [if_pos hlow]
        rw [hpart] at hcs
        have hsz : w.heap.size ≤ wr.heap.size := HB.out.size
        go_wp2_with (at_builtin; refine Kd.N_append kP (w0 := w) w.heap.size rfl (.tmp 35) (.tmp 41) 54 53 (.slice none 0 0) 24 rfl Try.underlying54 info53 rfl (by decide) (by decide) _ (pn (cutTo P a b k)) _ _ (fun k => ok k ∨ w.heap.size ≤ k) (fun k => ok k ∧ k < w.heap.size) rfl rfl HQ.out (fun j hj => ⟨.inl hj.1, fun e => by have := Kd.N_base HN.out j e.symm; have := hj.2; omega⟩) (fun j hj => .inr (Nat.le_trans hsz hj)) HN.out HB.out hsz (by rw [List.length_map]; omega) ?_; rintro v1 w1 hn1 hb1 hg1 hat1; have HN1 := Aside0.mk hn1; have HB1 := Aside0.mk hb1; clear hn1 hb1 hg1 hat1)
        go_roundw
        case measure => (first | (show P.length - (wrap64 ((k:Int)+1)).toNat < P.length - ((k:Int)).toNat; rw [wrap_id _ (by omega) (by omega)]; omega) | (show P.length - ((k:Int)+1).toNat < P.length - ((k:Int)).toNat; omega))
        case rel => exact ⟨k + 1, by omega, by go_num, by rw [hstep, List.length_append, ho]; go_num, ⟨by rw [hcs, pn_append]; exact HN1.out⟩, HB1⟩
      · have hpart : part z o a b = [] := by unfold part; rw [if_neg hlow]
        rw [hpart, List.append_nil] at hcs
        go_wp2
        go_roundw
        case measure => (first | (show P.length - (wrap64 ((k:Int)+1)).toNat < P.length - ((k:Int)).toNat; rw [wrap_id _ (by omega) (by omega)]; omega) | (show P.length - ((k:Int)+1).toNat < P.length - ((k:Int)).toNat; omega))
        case rel => exact ⟨k + 1, by omega, by go_num, by rw [hstep, List.length_append, ho]; go_num, ⟨by rw [hcs]; exact HN.out⟩, HB⟩
    · obtain rfl : k = P.length := by omega
      go_wp2
      go_ret
      exact ⟨_, rfl, HN.out, HB.out⟩
end Go.Proofs.Ytkeicfbjijnhnaa.P
