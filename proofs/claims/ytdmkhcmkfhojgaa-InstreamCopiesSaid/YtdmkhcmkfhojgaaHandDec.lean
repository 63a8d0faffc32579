/- utf8in's decoder: what begin does to it, by the first byte. -/
import Derived.Test.YtdmkhcmkfhojgaaPx0
import Derived.Test.YtdmkhcmkfhojgaaBlk
import Derived.Lib.Hide
import Derived.WalkSpells
namespace Go.Proofs.Ytdmkhcmkfhojgaa.P
open Go.RowKit Go.Proofs.YtdmkhcmkfhojgaaW.PrintWords Go.Proofs.YtdmkhcmkfhojgaaW.PrintLast Go.Proofs.YtdmkhcmkfhojgaaW.PrintMore Go.Proofs.Ytdmkhcmkfhojgaa.Blk
set_option linter.unusedVariables false

/-- a decoder: where, how many bytes it has, needs, what the next one may be, what is known of the character -/
structure Dec where
  at_ : Int
  have_ : Int
  need : Int
  low : Int
  high : Int
  r : Int

def Dec.cells (d : Dec) : Array Value := #[.int .i64 d.at_, .int .i64 d.have_, .int .i64 d.need, .int .u8 d.low, .int .u8 d.high, .int .i64 d.r]
def DecAt (w : World) (g : Nat) (d : Dec) : Prop := Blk w g 51 d.cells

theorem DecAt.facts {w : World} {g : Nat} {a h n l u r : Int} (hd : DecAt w g ⟨a, h, n, l, u, r⟩) :
    (w.cell? ⟨g, 0, none⟩ = some (.int .i64 a) ∧ w.cell? ⟨g, 1, none⟩ = some (.int .i64 h) ∧ w.cell? ⟨g, 2, none⟩ = some (.int .i64 n) ∧ w.cell? ⟨g, 3, none⟩ = some (.int .u8 l) ∧ w.cell? ⟨g, 4, none⟩ = some (.int .u8 u) ∧ w.cell? ⟨g, 5, none⟩ = some (.int .i64 r)) ∧
    ∀ i, w.frozen? ⟨g, i, none⟩ = false :=
  ⟨⟨(Blk.cell hd 0).trans rfl, (Blk.cell hd 1).trans rfl, (Blk.cell hd 2).trans rfl, (Blk.cell hd 3).trans rfl, (Blk.cell hd 4).trans rfl, (Blk.cell hd 5).trans rfl⟩, fun i => Blk.frozen hd i⟩

section
variable {w : World} {g : Nat} {a h n l u r : Int}
theorem DecAt.set0 (hd : DecAt w g ⟨a, h, n, l, u, r⟩) (x : Int) : DecAt (w.setCell ⟨g, 0, none⟩ (.int .i64 x)) g ⟨x, h, n, l, u, r⟩ := by
  have e : (⟨x, h, n, l, u, r⟩ : Dec).cells = (⟨a, h, n, l, u, r⟩ : Dec).cells.setIfInBounds 0 (.int .i64 x) := by simp [Dec.cells]
  unfold DecAt
  rw [e]
  exact Blk.set_ hd 0 _
theorem DecAt.set1 (hd : DecAt w g ⟨a, h, n, l, u, r⟩) (x : Int) : DecAt (w.setCell ⟨g, 1, none⟩ (.int .i64 x)) g ⟨a, x, n, l, u, r⟩ := by
  have e : (⟨a, x, n, l, u, r⟩ : Dec).cells = (⟨a, h, n, l, u, r⟩ : Dec).cells.setIfInBounds 1 (.int .i64 x) := by simp [Dec.cells]
  unfold DecAt
  rw [e]
  exact Blk.set_ hd 1 _
theorem DecAt.set2 (hd : DecAt w g ⟨a, h, n, l, u, r⟩) (x : Int) : DecAt (w.setCell ⟨g, 2, none⟩ (.int .i64 x)) g ⟨a, h, x, l, u, r⟩ := by
  have e : (⟨a, h, x, l, u, r⟩ : Dec).cells = (⟨a, h, n, l, u, r⟩ : Dec).cells.setIfInBounds 2 (.int .i64 x) := by simp [Dec.cells]
  unfold DecAt
  rw [e]
  exact Blk.set_ hd 2 _
theorem DecAt.set3 (hd : DecAt w g ⟨a, h, n, l, u, r⟩) (x : Int) : DecAt (w.setCell ⟨g, 3, none⟩ (.int .u8 x)) g ⟨a, h, n, x, u, r⟩ := by
  have e : (⟨a, h, n, x, u, r⟩ : Dec).cells = (⟨a, h, n, l, u, r⟩ : Dec).cells.setIfInBounds 3 (.int .u8 x) := by simp [Dec.cells]
  unfold DecAt
  rw [e]
  exact Blk.set_ hd 3 _
theorem DecAt.set4 (hd : DecAt w g ⟨a, h, n, l, u, r⟩) (x : Int) : DecAt (w.setCell ⟨g, 4, none⟩ (.int .u8 x)) g ⟨a, h, n, l, x, r⟩ := by
  have e : (⟨a, h, n, l, x, r⟩ : Dec).cells = (⟨a, h, n, l, u, r⟩ : Dec).cells.setIfInBounds 4 (.int .u8 x) := by simp [Dec.cells]
  unfold DecAt
  rw [e]
  exact Blk.set_ hd 4 _
theorem DecAt.set5 (hd : DecAt w g ⟨a, h, n, l, u, r⟩) (x : Int) : DecAt (w.setCell ⟨g, 5, none⟩ (.int .i64 x)) g ⟨a, h, n, l, u, x⟩ := by
  have e : (⟨a, h, n, l, u, x⟩ : Dec).cells = (⟨a, h, n, l, u, r⟩ : Dec).cells.setIfInBounds 5 (.int .i64 x) := by simp [Dec.cells]
  unfold DecAt
  rw [e]
  exact Blk.set_ hd 5 _
end

set_option maxHeartbeats 400000 in
theorem begin1 (g : Nat) (a h n l u r : Int) (c : Int) (w : World) (hd : DecAt w g ⟨a, h, n, l, u, r⟩) (h0 : 0 ≤ c) (h1 : c < 128) :
    Calls Try.prog 26 #[.pointer (some ⟨g, 0, none⟩), .int .u8 c] w fun e w' => e = .returned (.bool true) ∧ DecAt w' g ⟨a, 1, 1, 128, 191, c⟩ ∧ w.grownBy w' (some g) := by
  obtain ⟨⟨c0, c1, c2, c3, c4, c5⟩, hf⟩ := hd.facts
  have HD := Aside0.mk hd
  clear hd
  go_enter Try.func26, Try.ntmps26
  go_wp2
  go_ret
  have q1 := HD.out.set3 128
  have q2 := q1.set4 191
  have q3 := q2.set2 1
  have q4 := q3.set5 c
  have q5 := q4.set1 1
  exact ⟨rfl, q5, by (iterate 5 refine only_setCell ?_ (.inl rfl) _); exact World.grownBy.refl w _⟩

set_option maxHeartbeats 400000 in
theorem begin2 (g : Nat) (a h n l u r : Int) (c : Int) (w : World) (hd : DecAt w g ⟨a, h, n, l, u, r⟩) (h0 : 194 ≤ c) (h1 : c < 224) :
    Calls Try.prog 26 #[.pointer (some ⟨g, 0, none⟩), .int .u8 c] w fun e w' => e = .returned (.bool true) ∧ DecAt w' g ⟨a, 1, 2, 128, 191, c % 32⟩ ∧ w.grownBy w' (some g) := by
  obtain ⟨⟨c0, c1, c2, c3, c4, c5⟩, hf⟩ := hd.facts
  have HD := Aside0.mk hd
  clear hd
  go_enter Try.func26, Try.ntmps26
  go_wp2
  go_ret
  have q1 := HD.out.set3 128
  have q2 := q1.set4 191
  have q3 := q2.set2 2
  have q4 := q3.set5 (c % 32)
  have q5 := q4.set1 1
  exact ⟨rfl, q5, by (iterate 5 refine only_setCell ?_ (.inl rfl) _); exact World.grownBy.refl w _⟩

set_option maxHeartbeats 400000 in
theorem begin3a (g : Nat) (a h n l u r : Int) (c : Int) (w : World) (hd : DecAt w g ⟨a, h, n, l, u, r⟩) (h0 : c = 224) :
    Calls Try.prog 26 #[.pointer (some ⟨g, 0, none⟩), .int .u8 c] w fun e w' => e = .returned (.bool true) ∧ DecAt w' g ⟨a, 1, 3, 160, 191, 0⟩ ∧ w.grownBy w' (some g) := by
  obtain ⟨⟨c0, c1, c2, c3, c4, c5⟩, hf⟩ := hd.facts
  have HD := Aside0.mk hd
  clear hd
  subst h0
  go_enter Try.func26, Try.ntmps26
  go_wp2
  go_ret
  have q1 := HD.out.set3 128
  have q2 := q1.set4 191
  have q3 := q2.set2 3
  have q4 := q3.set5 (0)
  have q5 := q4.set3 160
  have q6 := q5.set1 1
  exact ⟨rfl, q6, by (iterate 6 refine only_setCell ?_ (.inl rfl) _); exact World.grownBy.refl w _⟩

set_option maxHeartbeats 400000 in
theorem begin3b (g : Nat) (a h n l u r : Int) (c : Int) (w : World) (hd : DecAt w g ⟨a, h, n, l, u, r⟩) (h0 : c = 237) :
    Calls Try.prog 26 #[.pointer (some ⟨g, 0, none⟩), .int .u8 c] w fun e w' => e = .returned (.bool true) ∧ DecAt w' g ⟨a, 1, 3, 128, 159, 13⟩ ∧ w.grownBy w' (some g) := by
  obtain ⟨⟨c0, c1, c2, c3, c4, c5⟩, hf⟩ := hd.facts
  have HD := Aside0.mk hd
  clear hd
  subst h0
  go_enter Try.func26, Try.ntmps26
  go_wp2
  go_ret
  have q1 := HD.out.set3 128
  have q2 := q1.set4 191
  have q3 := q2.set2 3
  have q4 := q3.set5 (13)
  have q5 := q4.set4 159
  have q6 := q5.set1 1
  exact ⟨rfl, q6, by (iterate 6 refine only_setCell ?_ (.inl rfl) _); exact World.grownBy.refl w _⟩

set_option maxHeartbeats 400000 in
theorem begin3c (g : Nat) (a h n l u r : Int) (c : Int) (w : World) (hd : DecAt w g ⟨a, h, n, l, u, r⟩) (h0 : 224 ≤ c) (h1 : c < 240) (h2 : (c == 224) = false) (h3 : (c == 237) = false) :
    Calls Try.prog 26 #[.pointer (some ⟨g, 0, none⟩), .int .u8 c] w fun e w' => e = .returned (.bool true) ∧ DecAt w' g ⟨a, 1, 3, 128, 191, c % 16⟩ ∧ w.grownBy w' (some g) := by
  obtain ⟨⟨c0, c1, c2, c3, c4, c5⟩, hf⟩ := hd.facts
  have HD := Aside0.mk hd
  clear hd
  go_enter Try.func26, Try.ntmps26
  go_wp2
  go_ret
  have q1 := HD.out.set3 128
  have q2 := q1.set4 191
  have q3 := q2.set2 3
  have q4 := q3.set5 (c % 16)
  have q5 := q4.set1 1
  exact ⟨rfl, q5, by (iterate 5 refine only_setCell ?_ (.inl rfl) _); exact World.grownBy.refl w _⟩

set_option maxHeartbeats 400000 in
theorem begin4a (g : Nat) (a h n l u r : Int) (c : Int) (w : World) (hd : DecAt w g ⟨a, h, n, l, u, r⟩) (h0 : c = 240) :
    Calls Try.prog 26 #[.pointer (some ⟨g, 0, none⟩), .int .u8 c] w fun e w' => e = .returned (.bool true) ∧ DecAt w' g ⟨a, 1, 4, 144, 191, 0⟩ ∧ w.grownBy w' (some g) := by
  obtain ⟨⟨c0, c1, c2, c3, c4, c5⟩, hf⟩ := hd.facts
  have HD := Aside0.mk hd
  clear hd
  subst h0
  go_enter Try.func26, Try.ntmps26
  go_wp2
  go_ret
  have q1 := HD.out.set3 128
  have q2 := q1.set4 191
  have q3 := q2.set2 4
  have q4 := q3.set5 (0)
  have q5 := q4.set3 144
  have q6 := q5.set1 1
  exact ⟨rfl, q6, by (iterate 6 refine only_setCell ?_ (.inl rfl) _); exact World.grownBy.refl w _⟩

set_option maxHeartbeats 400000 in
theorem begin4b (g : Nat) (a h n l u r : Int) (c : Int) (w : World) (hd : DecAt w g ⟨a, h, n, l, u, r⟩) (h0 : c = 244) :
    Calls Try.prog 26 #[.pointer (some ⟨g, 0, none⟩), .int .u8 c] w fun e w' => e = .returned (.bool true) ∧ DecAt w' g ⟨a, 1, 4, 128, 143, 4⟩ ∧ w.grownBy w' (some g) := by
  obtain ⟨⟨c0, c1, c2, c3, c4, c5⟩, hf⟩ := hd.facts
  have HD := Aside0.mk hd
  clear hd
  subst h0
  go_enter Try.func26, Try.ntmps26
  go_wp2
  go_ret
  have q1 := HD.out.set3 128
  have q2 := q1.set4 191
  have q3 := q2.set2 4
  have q4 := q3.set5 (4)
  have q5 := q4.set4 143
  have q6 := q5.set1 1
  exact ⟨rfl, q6, by (iterate 6 refine only_setCell ?_ (.inl rfl) _); exact World.grownBy.refl w _⟩

set_option maxHeartbeats 400000 in
theorem begin4c (g : Nat) (a h n l u r : Int) (c : Int) (w : World) (hd : DecAt w g ⟨a, h, n, l, u, r⟩) (h0 : 240 ≤ c) (h1 : c < 245) (h2 : (c == 240) = false) (h3 : (c == 244) = false) :
    Calls Try.prog 26 #[.pointer (some ⟨g, 0, none⟩), .int .u8 c] w fun e w' => e = .returned (.bool true) ∧ DecAt w' g ⟨a, 1, 4, 128, 191, c % 8⟩ ∧ w.grownBy w' (some g) := by
  obtain ⟨⟨c0, c1, c2, c3, c4, c5⟩, hf⟩ := hd.facts
  have HD := Aside0.mk hd
  clear hd
  go_enter Try.func26, Try.ntmps26
  go_wp2
  go_ret
  have q1 := HD.out.set3 128
  have q2 := q1.set4 191
  have q3 := q2.set2 4
  have q4 := q3.set5 (c % 8)
  have q5 := q4.set1 1
  exact ⟨rfl, q5, by (iterate 5 refine only_setCell ?_ (.inl rfl) _); exact World.grownBy.refl w _⟩

set_option maxHeartbeats 400000 in
theorem begin5 (g : Nat) (a h n l u r : Int) (c : Int) (w : World) (hd : DecAt w g ⟨a, h, n, l, u, r⟩) (h0 : 128 ≤ c) (h1 : c < 194) :
    Calls Try.prog 26 #[.pointer (some ⟨g, 0, none⟩), .int .u8 c] w fun e w' => e = .returned (.bool false) ∧ DecAt w' g ⟨a, h, n, 128, 191, r⟩ ∧ w.grownBy w' (some g) := by
  obtain ⟨⟨c0, c1, c2, c3, c4, c5⟩, hf⟩ := hd.facts
  have HD := Aside0.mk hd
  clear hd
  go_enter Try.func26, Try.ntmps26
  go_wp2
  go_ret
  have q1 := HD.out.set3 128
  have q2 := q1.set4 191
  exact ⟨rfl, q2, by (iterate 2 refine only_setCell ?_ (.inl rfl) _); exact World.grownBy.refl w _⟩

set_option maxHeartbeats 400000 in
theorem begin6 (g : Nat) (a h n l u r : Int) (c : Int) (w : World) (hd : DecAt w g ⟨a, h, n, l, u, r⟩) (h0 : 245 ≤ c) (h1 : c ≤ 255) :
    Calls Try.prog 26 #[.pointer (some ⟨g, 0, none⟩), .int .u8 c] w fun e w' => e = .returned (.bool false) ∧ DecAt w' g ⟨a, h, n, 128, 191, r⟩ ∧ w.grownBy w' (some g) := by
  obtain ⟨⟨c0, c1, c2, c3, c4, c5⟩, hf⟩ := hd.facts
  have HD := Aside0.mk hd
  clear hd
  go_enter Try.func26, Try.ntmps26
  go_wp2
  go_ret
  have q1 := HD.out.set3 128
  have q2 := q1.set4 191
  exact ⟨rfl, q2, by (iterate 2 refine only_setCell ?_ (.inl rfl) _); exact World.grownBy.refl w _⟩
end Go.Proofs.Ytdmkhcmkfhojgaa.P
