/- A row of attributes that is turned in its place: the world; exchanging two runs. -/
import Derived.Test.YtkmioljfjjmcpaaSortCmp
import Derived.BigRegion
namespace Go.Proofs.Ytkmioljfjjmcpaa.P
open Go.RowKit Go.Proofs.YtkmioljfjjmcpaaW.PrintWords Go.Proofs.YtkmioljfjjmcpaaW.PrintLast Go.Proofs.YtkmioljfjjmcpaaW.PrintMore Go.Proofs.Ytkmioljfjjmcpaa.Blk
set_option linter.unusedVariables false
/-- block b (N cells) holds the row d; all else of w0 is as it was -/
def SortAt (w0 : World) (b N : Nat) (d : List E) (W : World) : Prop :=
  (∃ cur : Array Value, W.heap[b]? = some (.cells cur 24 (0, 0)) ∧ cur.size = N ∧ d.length * 2 ≤ N ∧ ∀ j x, d[j]? = some x → cur[j * 2]? = some (.string x.f0) ∧ cur[j * 2 + 1]? = some (.string x.f1)) ∧ w0.grownBy W (some b) ∧ b < w0.heap.size
section
variable {w0 W W' : World} {b N : Nat} {d : List E}
theorem SortAt.cells (h : SortAt w0 b N d W) {i : Nat} {x : E} (hx : d[i]? = some x) : W.cell? ⟨b, i * 2, none⟩ = some (.string x.f0) ∧ W.cell? ⟨b, i * 2 + 1, none⟩ = some (.string x.f1) := by
  obtain ⟨⟨cur, hb, _, _, hc⟩, _, _⟩ := h
  have := hc i x hx
  exact ⟨(Blk.cell (show Blk W b 24 cur from hb) _).trans this.1, (Blk.cell (show Blk W b 24 cur from hb) _).trans this.2⟩
theorem SortAt.fr (h : SortAt w0 b N d W) (i : Nat) : W.frozen? ⟨b, i, none⟩ = false := by
  obtain ⟨⟨cur, hb, _, _, hc⟩, _, _⟩ := h
  exact Blk.frozen (show Blk W b 24 cur from hb) i
theorem SortAt.below (h : SortAt w0 b N d W) (hb : Below W.heap.size W W') : SortAt w0 b N d W' := by
  obtain ⟨⟨cur, hk, h1, h2, hc⟩, hg, hlt⟩ := h
  exact ⟨⟨cur, Blk.below (show Blk W b 24 cur from hk) hb (Blk.lt (show Blk W b 24 cur from hk)), h1, h2, hc⟩, only_below hg hb, hlt⟩
theorem SortAt.drew (h : SortAt w0 b N d W) : SortAt w0 b N d W.drew := h.below (below_drew1 (Below.refl _ _))
theorem SortAt.set (h : SortAt w0 b N d W) {i : Nat} (hi : i < d.length) (y : E) : SortAt w0 b N (d.set i y) ((W.setCell ⟨b, i * 2, none⟩ (.string y.f0)).setCell ⟨b, i * 2 + 1, none⟩ (.string y.f1)) := by
  obtain ⟨⟨cur, hk, h1, h2, hc⟩, hg, hlt⟩ := h
  refine ⟨⟨(cur.setIfInBounds (i * 2) (.string y.f0)).setIfInBounds (i * 2 + 1) (.string y.f1), Blk.set_ (Blk.set_ (show Blk W b 24 cur from hk) _ _) _ _, by simp [h1], by simpa using h2, ?_⟩, only_setCell (only_setCell hg (.inl rfl) _) (.inl rfl) _, hlt⟩
  intro j x hx
  rw [List.getElem?_set] at hx
  by_cases hij : i = j
  · subst hij
    simp [hi] at hx
    subst hx
    constructor
    · rw [Array.getElem?_setIfInBounds_ne (by omega)]
      simp [Array.getElem?_setIfInBounds]
      omega
    · simp [Array.getElem?_setIfInBounds]
      omega
  · rw [if_neg hij] at hx
    have := hc j x hx
    constructor
    · rw [Array.getElem?_setIfInBounds_ne (by omega), Array.getElem?_setIfInBounds_ne (by omega)]
      exact this.1
    · rw [Array.getElem?_setIfInBounds_ne (by omega), Array.getElem?_setIfInBounds_ne (by omega)]
      exact this.2
theorem SortAt.swap (h : SortAt w0 b N d W) {i j : Nat} {x y : E} (hx : d[i]? = some x) (hy : d[j]? = some y) :
    SortAt w0 b N ((d.set i y).set j x) ((((W.setCell ⟨b, i * 2, none⟩ (.string y.f0)).setCell ⟨b, i * 2 + 1, none⟩ (.string y.f1)).setCell ⟨b, j * 2, none⟩ (.string x.f0)).setCell ⟨b, j * 2 + 1, none⟩ (.string x.f1)) := by
  have hi := (List.getElem?_eq_some_iff.1 hx).1
  have hj := (List.getElem?_eq_some_iff.1 hy).1
  exact (h.set hi y).set (by simpa using hj) x
end
theorem get_mid {α : Type} (p Z r : List α) (k : Nat) (h : k < Z.length) : (p ++ Z ++ r)[p.length + k]? = Z[k]? := by
  rw [List.append_assoc, List.getElem?_append_right (by omega), show p.length + k - p.length = k by omega, List.getElem?_append_left h]
theorem set_mid {α : Type} (p Z r : List α) (k : Nat) (h : k < Z.length) (y : α) : (p ++ Z ++ r).set (p.length + k) y = p ++ Z.set k y ++ r := by
  rw [List.append_assoc, List.set_append_right _ _ (by omega), show p.length + k - p.length = k by omega, List.set_append_left _ _ h, List.append_assoc]
/-- X's first k are Y's by now -/
def mix {α : Type} (X Y : List α) (k : Nat) : List α := Y.take k ++ X.drop k
theorem mix_len {α : Type} (X Y : List α) (h : X.length = Y.length) (k : Nat) (hk : k ≤ X.length) : (mix X Y k).length = X.length := by unfold mix; simp; omega
theorem mix_get {α : Type} (X Y : List α) (h : X.length = Y.length) (k : Nat) (hk : k < X.length) : (mix X Y k)[k]? = some X[k] := by
  unfold mix
  rw [List.getElem?_append_right (by simp; omega), List.length_take, show k - min k Y.length = 0 by omega, List.getElem?_drop]
  simp
theorem mix_set {α : Type} (X Y : List α) (h : X.length = Y.length) (k : Nat) (hk : k < X.length) : (mix X Y k).set k (Y[k]'(by omega)) = mix X Y (k + 1) := by
  unfold mix
  rw [List.set_append_right _ _ (by simp; omega), List.length_take, show k - min k Y.length = 0 by omega, List.drop_eq_getElem_cons hk, List.set_cons_zero, List.take_succ_eq_append_getElem (by omega), List.append_assoc]
  rfl
theorem mix_zero {α : Type} (X Y : List α) : mix X Y 0 = X := by simp [mix]
theorem mix_all {α : Type} (X Y : List α) (h : X.length = Y.length) : mix X Y X.length = Y := by
  unfold mix
  rw [List.drop_length, List.append_nil, List.take_of_length_le (by omega)]
def swpRow {α : Type} (p X q Y s : List α) (k : Nat) : List α := p ++ mix X Y k ++ (q ++ mix Y X k ++ s)
theorem swpRow_len {α : Type} (p X q Y s : List α) (h : X.length = Y.length) (k : Nat) (hk : k ≤ X.length) : (swpRow p X q Y s k).length = p.length + X.length + q.length + Y.length + s.length := by
  unfold swpRow
  simp only [List.length_append, mix_len X Y h k hk, mix_len Y X h.symm k (by omega)]
  omega
theorem swpRow_get1 {α : Type} (p X q Y s : List α) (h : X.length = Y.length) (k : Nat) (hk : k < X.length) : (swpRow p X q Y s k)[p.length + k]? = some X[k] := by
  unfold swpRow
  rw [get_mid _ _ _ _ (by rw [mix_len X Y h k (by omega)]; exact hk), mix_get X Y h k hk]
theorem swpRow_get2 {α : Type} (p X q Y s : List α) (h : X.length = Y.length) (k : Nat) (hk : k < X.length) : (swpRow p X q Y s k)[p.length + X.length + q.length + k]? = some (Y[k]'(by omega)) := by
  unfold swpRow
  rw [show p ++ mix X Y k ++ (q ++ mix Y X k ++ s) = (p ++ mix X Y k ++ q) ++ mix Y X k ++ s by simp only [List.append_assoc]]
  have e : p.length + X.length + q.length + k = (p ++ mix X Y k ++ q).length + k := by simp only [List.length_append, mix_len X Y h k (by omega)]
  rw [e, get_mid _ _ _ _ (by rw [mix_len Y X h.symm k (by omega)]; omega), mix_get Y X h.symm k (by omega)]
theorem swpRow_step {α : Type} (p X q Y s : List α) (h : X.length = Y.length) (k : Nat) (hk : k < X.length) : ((swpRow p X q Y s k).set (p.length + k) (Y[k]'(by omega))).set (p.length + X.length + q.length + k) X[k] = swpRow p X q Y s (k + 1) := by
  unfold swpRow
  rw [set_mid _ _ _ _ (by rw [mix_len X Y h k (by omega)]; exact hk), mix_set X Y h k hk]
  rw [show p ++ mix X Y (k + 1) ++ (q ++ mix Y X k ++ s) = (p ++ mix X Y (k + 1) ++ q) ++ mix Y X k ++ s by simp only [List.append_assoc]]
  have e : p.length + X.length + q.length + k = (p ++ mix X Y (k + 1) ++ q).length + k := by simp only [List.length_append, mix_len X Y h (k + 1) (by omega)]
  rw [e, set_mid _ _ _ _ (by rw [mix_len Y X h.symm k (by omega)]; omega), mix_set Y X h.symm k (by omega)]
  simp only [List.append_assoc]
theorem swpRow_at {α : Type} (p X q Y s : List α) (h : X.length = Y.length) (k : Nat) (hk : k < X.length) (I J : Nat) (hI : p.length + k = I) (hJ : p.length + X.length + q.length + k = J) :
    ∃ x y, (swpRow p X q Y s k)[I]? = some x ∧ (swpRow p X q Y s k)[J]? = some y ∧ ((swpRow p X q Y s k).set I y).set J x = swpRow p X q Y s (k + 1) := by
  subst hI hJ
  exact ⟨_, _, swpRow_get1 p X q Y s h k hk, swpRow_get2 p X q Y s h k hk, swpRow_step p X q Y s h k hk⟩
/-- the sort's function value -/
abbrev clo : Value := .func (.func 26) #[] #[]
set_option maxRecDepth 100000 in
set_option maxHeartbeats 1000000 in
theorem swp_calls {w0 : World} {b N m c : Nat} (p X q Y s : List E) (h : X.length = Y.length) (hm : p.length + X.length + q.length + Y.length + s.length = m) (hbd : m ≤ 1000000000000) (W : World) (hW : SortAt w0 b N (p ++ X ++ q ++ Y ++ s) W) :
    Calls Try.prog 37 #[.slice (some ⟨b, 0, none⟩) m c, .int .i64 (p.length : Int), .int .i64 ((p.length + X.length + q.length : Nat) : Int), .int .i64 (X.length : Int), clo] W fun e w' => e = .returned (.tuple #[]) ∧ SortAt w0 b N (p ++ Y ++ q ++ X ++ s) w' := by
  obtain ⟨n, hn⟩ : ∃ n, X.length = n := ⟨_, rfl⟩
  obtain ⟨pa, hpa⟩ : ∃ n, p.length = n := ⟨_, rfl⟩
  obtain ⟨pb, hpb⟩ : ∃ n, p.length + X.length + q.length = n := ⟨_, rfl⟩
  have H0 : Aside0 (SortAt w0 b N (swpRow p X q Y s 0) W) := ⟨by unfold swpRow; rw [mix_zero, mix_zero]; simpa only [List.append_assoc] using hW⟩
  have HX := Aside0.mk (And.intro h (And.intro hn (And.intro hpa (And.intro hpb hm))))
  have hb1 : pa + n ≤ m ∧ pb + n ≤ m ∧ pa ≤ m ∧ pa + n ≤ pb := by omega
  rw [hpb, hpa, hn]
  clear hW hn hpa hpb hm h
  go_enter Try.func37, Try.ntmps37
  go_wp2
  go_loopw [10] (fun v wr => ∃ k : Nat, v = .int .i64 k ∧ k ≤ n ∧ Aside0 (SortAt w0 b N (swpRow p X q Y s k) wr)) (fun v _ => n - (intOf v).toNat)
  case atStart => exact ⟨0, rfl, by omega, H0⟩
  case round =>
    clear H0
    obtain ⟨k, rfl, hk, HW⟩ := hrel
    by_cases hlt : k < n
    · have hk1 : (k : Int) < (n : Int) := by omega
      obtain ⟨I, hI⟩ : ∃ I, pa + k = I := ⟨_, rfl⟩
      obtain ⟨J, hJ⟩ : ∃ J, pb + k = J := ⟨_, rfl⟩
      have sI : IntKind.i64.wrap ((pa : Int) + (k : Int)) = (I : Int) := by rw [IntWalk.i64_in _ (by omega)]; omega
      have sJ : IntKind.i64.wrap ((pb : Int) + (k : Int)) = (J : Int) := by rw [IntWalk.i64_in _ (by omega)]; omega
      have i0 : (0 : Int) ≤ (I : Int) := by omega
      have i1 : (I : Int) < (m : Int) := by omega
      have j0 : (0 : Int) ≤ (J : Int) := by omega
      have j1 : (J : Int) < (m : Int) := by omega
      have hkX : k < X.length := by have := HX.out.2.1; omega
      obtain ⟨x, y, gx, gy, gs⟩ := swpRow_at p X q Y s HX.out.1 k hkX I J (by rw [HX.out.2.2.1]; exact hI) (by rw [HX.out.2.2.2.1]; exact hJ)
      have S1 := Aside0.mk (HW.out.swap gx gy).drew
      rw [gs] at S1
      have hIJ : I < J := by omega
      have n1 : ¬ J = I := by omega
      have n2 : ¬ J * 2 = I * 2 + 1 := by omega
      have n3 : ¬ J * 2 + 1 = I * 2 := by omega
      have n4 : ¬ I = J := by omega
      have n5 : ¬ I * 2 = J * 2 + 1 := by omega
      have n6 : ¬ I * 2 + 1 = J * 2 := by omega
      obtain ⟨ci0, ci1⟩ := HW.out.cells gx
      obtain ⟨cj0, cj1⟩ := HW.out.cells gy
      have fi0 := HW.out.fr (I * 2)
      have fi1 := HW.out.fr (I * 2 + 1)
      have fj0 := HW.out.fr (J * 2)
      have fj1 := HW.out.fr (J * 2 + 1)
      clear gx gy gs HW hI hJ
      go_wp2
      go_region
      all_goals go_wp2
      go_roundw
      case rel => exact ⟨k + 1, by go_num, by omega, S1⟩
      case measure => simp [intOf]; omega
    · have hk1 : ¬ (k : Int) < (n : Int) := by omega
      obtain rfl : k = n := by omega
      go_wp2
      go_end0
      refine ⟨rfl, ?_⟩
      have := HW.out
      unfold swpRow at this
      rw [← HX.out.2.1, mix_all X Y HX.out.1, show X.length = Y.length from HX.out.1, mix_all Y X HX.out.1.symm] at this
      simpa only [List.append_assoc] using this
end Go.Proofs.Ytkmioljfjjmcpaa.P
