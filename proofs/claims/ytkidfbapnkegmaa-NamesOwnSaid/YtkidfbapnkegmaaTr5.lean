/- A trie by its names; awake. -/
import Derived.Test.YtkidfbapnkegmaaTr4
namespace Go.Proofs.Ytkidfbapnkegmaa.P
open Go.RowKit Go.Proofs.YtkidfbapnkegmaaW.PrintWords Go.Proofs.YtkidfbapnkegmaaW.PrintLast Go.Proofs.YtkidfbapnkegmaaW.PrintMore Go.Proofs.Ytkidfbapnkegmaa.Blk
set_option linter.unusedVariables false

/-- the longest of the first k bytes' beginnings that is a name -/
def nlng (S : NS) (s : List UInt8) : Nat → Int × Nat
  | 0 => (0, 0)
  | k + 1 => match S.get (s.take (k + 1)) with
    | some r => (r, k + 1)
    | none => nlng S s k
/-- does a name begin with a text? -/
def ngoes (S : NS) (s : List UInt8) : Bool := S.any (fun x => s.isPrefixOf x.1)
theorem lng_nlng {t : TG} {S : NS} (h : Holds t S) (s : List UInt8) : ∀ k, t.lng s k = nlng S s k
  | 0 => rfl
  | k + 1 => by
    unfold TG.lng nlng
    rw [h.vl, lng_nlng h s k]
    cases NS.get S (s.take (k + 1)) <;> rfl
theorem goes_ngoes {t : TG} {S : NS} (h : Holds t S) (s : List UInt8) : t.goes S.length s = ngoes S s := by
  unfold TG.goes ngoes
  rw [Bool.eq_iff_iff, Bool.and_eq_true, bne_iff_ne, h.nd s, List.any_eq_true]
  constructor
  · rintro ⟨h1, h2 | ⟨x, hx, h2⟩⟩
    · subst h2
      cases S with
      | nil => exact absurd rfl h1
      | cons y S => exact ⟨y, List.mem_cons_self, by simp⟩
    · exact ⟨x, hx, by simpa using h2⟩
  · rintro ⟨x, hx, h2⟩
    refine ⟨?_, .inr ⟨x, hx, by simpa using h2⟩⟩
    cases S with
    | nil => cases hx
    | cons y S => simp

/-- a trie of these names lies there -/
def Tr (w : World) (g : Nat) (S : NS) : Prop := ∃ base t, TrieAt w base g S.length t ∧ Holds t S
theorem Tr.below {w w' : World} {g : Nat} {S : NS} (h : Tr w g S) (hb : Below w.heap.size w w') : Tr w' g S := by
  obtain ⟨base, t, h1, h2⟩ := h
  exact ⟨base, t, h1.below hb, h2⟩
theorem Tr.alloc {w : World} {g : Nat} {S : NS} (h : Tr w g S) (o : Obj) : Tr (w.alloc o) g S := h.below ((Below.refl _ _).alloc (Nat.le_refl _) o)
theorem below_then' {B : Nat} {w w1 w2 : World} (h : Below B w w1) (hB : B ≤ w1.heap.size) (k : Below w1.heap.size w1 w2) : Below B w w2 :=
  ⟨k.os.trans h.os, k.tape.trans h.tape, k.output.trans h.output, Nat.le_trans h.size k.size, fun i hi => (k.block i (Nat.lt_of_lt_of_le hi hB)).trans (h.block i hi)⟩

theorem tr_goes {w : World} {g : Nat} {S : NS} (h : Tr w g S) (hS : S.length ≤ 1000000) (s : ByteArray) (hs : s.size ≤ 1000000000000000) :
    Calls Try.prog 12 #[.pointer (some ⟨g, 0, none⟩), .string s] w fun e w' => e = .returned (.bool (ngoes S s.data.toList)) ∧ Below w.heap.size w w' := by
  obtain ⟨base, t, h1, h2⟩ := h
  refine (goes_calls h1 s hs (by omega)).mono ?_
  rintro e w' ⟨rfl, hb⟩
  exact ⟨by rw [goes_ngoes h2], hb⟩
theorem tr_longest {w : World} {g : Nat} {S : NS} (h : Tr w g S) (s : ByteArray) (hs : s.size ≤ 1000000000000000) :
    Calls Try.prog 11 #[.pointer (some ⟨g, 0, none⟩), .string s] w fun e w' => e = .returned (.tuple #[.int .i64 (nlng S s.data.toList s.size).1, .int .i64 ((nlng S s.data.toList s.size).2 : Int)]) ∧ Below w.heap.size w w' := by
  obtain ⟨base, t, h1, h2⟩ := h
  refine (longest_calls h1 s hs).mono ?_
  rintro e w' ⟨rfl, hb⟩
  exact ⟨by rw [lng_nlng h2], hb⟩
theorem tr_count {w : World} {g : Nat} {S : NS} (h : Tr w g S) : Calls Try.prog 17 #[.pointer (some ⟨g, 0, none⟩)] w fun e w' => e = .returned (.int .i64 (S.length : Int)) ∧ w' = w := by
  obtain ⟨base, t, h1, h2⟩ := h
  exact count_calls h1
theorem tr_new (A : Option Addr) (c : Nat) (l : List S28) (w : World) (hC : Kd.C k28 w A l.length l) (hc : l.length ≤ c) (hl : l.length ≤ 1000000) :
    Calls Try.prog 9 #[.slice A l.length c] w fun e w' => ∃ g, e = .returned (.pointer (some ⟨g, 0, none⟩)) ∧ Tr w' g (nmz l) ∧ Below w.heap.size w w' := by
  refine (new_calls A c l w hC hc hl).mono ?_
  rintro e w' ⟨g, rfl, ⟨t, h1, h2⟩, hb⟩
  exact ⟨g, rfl, ⟨_, t, h1, h2⟩, hb⟩

theorem refsL_len : refsL.length = 78 := by decide +kernel
/-- the names of api -/
def S0 : NS := nmz refsL
theorem S0_len : S0.length = 78 := by decide +kernel
theorem refs78 (w : World) : Calls Try.prog 8 #[] w fun e w' => ∃ ad : Addr, e = .returned (.slice (some ad) 78 78) ∧ Kd.C k28 w' (some ad) refsL.length refsL ∧ Below w.heap.size w w' := by
  refine (refs_calls w).mono ?_
  rintro e w' ⟨rfl, h1, h2⟩
  exact ⟨_, by rw [refsL_len], h1, h2⟩
theorem new78 {ad : Addr} {w : World} (hC : Kd.C k28 w (some ad) refsL.length refsL) :
    Calls Try.prog 9 #[.slice (some ad) 78 78] w fun e w' => ∃ g, e = .returned (.pointer (some ⟨g, 0, none⟩)) ∧ Tr w' g S0 ∧ Below w.heap.size w w' := by
  have := tr_new (some ad) 78 refsL w hC (by rw [refsL_len]; exact Nat.le_refl _) (by rw [refsL_len]; decide)
  rwa [refsL_len] at this
theorem count78 {w : World} {g : Nat} (h : Tr w g S0) : Calls Try.prog 17 #[.pointer (some ⟨g, 0, none⟩)] w fun e w' => e = .returned (.int .i64 78) ∧ w' = w := by
  have := tr_count h
  rwa [S0_len] at this
theorem goes78 {w : World} {g : Nat} (h : Tr w g S0) (s : ByteArray) (hs : s.size ≤ 1000000000000000) {r : Bool} (hr : ngoes S0 s.data.toList = r) :
    Calls Try.prog 12 #[.pointer (some ⟨g, 0, none⟩), .string s] w fun e w' => e = .returned (.bool r) ∧ Below w.heap.size w w' := by
  have := tr_goes h (by rw [S0_len]; decide) s hs
  rwa [hr] at this
theorem longest78 {w : World} {g : Nat} (h : Tr w g S0) (s : ByteArray) (hs : s.size ≤ 1000000000000000) {r : Int × Nat} (hr : nlng S0 s.data.toList s.size = r) :
    Calls Try.prog 11 #[.pointer (some ⟨g, 0, none⟩), .string s] w fun e w' => e = .returned (.tuple #[.int .i64 r.1, .int .i64 (r.2 : Int)]) ∧ Below w.heap.size w w' := by
  have := tr_longest h s hs
  rwa [hr] at this

set_option maxRecDepth 100000 in
set_option maxHeartbeats 1000000 in
theorem awake_calls (w : World) : Calls Try.prog 10 #[] w fun e w' => e = .returned (.bool true) ∧ Below w.heap.size w w' := by
  have N1 := Aside0.mk trivial
  have N2 := Aside0.mk trivial
  have N3 := Aside0.mk trivial
  have N4 := Aside0.mk trivial
  have N5 := Aside0.mk trivial
  go_enter Try.func10, Try.ntmps10
  go_wp2_with (first
    | (go_at_call 8; (have gA := N1.out; clear gA N1); refine (refs78 _).mono ?_; rintro e w1 ⟨g0, rfl, hc1, hl1⟩; have D1 := Aside0.mk hc1; have L1 := Aside0.mk hl1; clear hc1 hl1)
    | (go_at_call 9; refine (new78 D1.out).mono ?_; rintro e w2 ⟨g, rfl, ht2, hl2⟩; have D2 := Aside0.mk ht2; have L2 := Aside0.mk (below_then' L1.out L1.out.size hl2); clear ht2 hl2 D1)
    | (go_at_call 11; (have gA := N2.out; clear gA N2); refine (longest78 D2.out ⟨#[110, 111, 116, 105, 116]⟩ (by decide) (r := (172, 3)) (by decide +kernel)).mono ?_; rintro e w3 ⟨rfl, hl3⟩; have D3 := Aside0.mk (D2.out.below hl3); have L3 := Aside0.mk (below_then' L2.out L2.out.size hl3); clear hl3 D2)
    | (go_at_call 11; (have gA := N3.out; clear gA N3); refine (longest78 D3.out ⟨#[110, 111, 116, 105, 110, 59, 120]⟩ (by decide) (r := (8713, 6)) (by decide +kernel)).mono ?_; rintro e w4 ⟨rfl, hl4⟩; have D4 := Aside0.mk (D3.out.below hl4); have L4 := Aside0.mk (below_then' L3.out L3.out.size hl4); clear hl4 D3)
    | (go_at_call 12; (have gA := N4.out; clear gA N4); refine (goes78 D4.out ⟨#[110, 111, 116, 105]⟩ (by decide) (r := true) (by decide +kernel)).mono ?_; rintro e w5 ⟨rfl, hl5⟩; have D5 := Aside0.mk (D4.out.below hl5); have L5 := Aside0.mk (below_then' L4.out L4.out.size hl5); clear hl5 D4)
    | (go_at_call 12; (have gA := N5.out; clear gA N5); refine (goes78 D5.out ⟨#[110, 111, 116, 120]⟩ (by decide) (r := false) (by decide +kernel)).mono ?_; rintro e w6 ⟨rfl, hl6⟩; have D6 := Aside0.mk (D5.out.below hl6); have L6 := Aside0.mk (below_then' L5.out L5.out.size hl6); clear hl6 D5)
    | (go_at_call 17; refine (count78 D6.out).mono ?_; rintro e w7 ⟨rfl, hw7⟩; subst hw7; have N7 := Aside0.mk trivial)
    | (go_at_call 8; (have gA := N7.out; clear gA N7); refine (refs78 _).mono ?_; rintro e w8 ⟨g8, rfl, hc8, hl8⟩; have L8 := Aside0.mk (below_then' L6.out L6.out.size hl8); clear hc8 hl8))
  go_ret
  exact ⟨rfl, L8.out⟩
end Go.Proofs.Ytkidfbapnkegmaa.P
