/- names.New: a trie of any names. -/
import Derived.Test.YtkidfbapnkegmaaTr3
import Derived.WalkSpells
namespace Go.Proofs.Ytkidfbapnkegmaa.P
open Go.RowKit Go.Proofs.YtkidfbapnkegmaaW.PrintWords Go.Proofs.YtkidfbapnkegmaaW.PrintLast Go.Proofs.YtkidfbapnkegmaaW.PrintMore Go.Proofs.Ytkidfbapnkegmaa.Blk
set_option linter.unusedVariables false

theorem loop_len (bs : ByteArray) : ∀ (n i : Nat) (r : List UInt8), bs.size - i = n → (ByteArray.toList.loop bs i r).length = r.length + n
  | 0, i, r, h => by
    unfold ByteArray.toList.loop
    rw [if_neg (by omega)]
    simp
  | n + 1, i, r, h => by
    unfold ByteArray.toList.loop
    rw [if_pos (by omega), loop_len bs n (i + 1) _ (by omega)]
    simp
    omega
theorem toList_len (bs : ByteArray) : bs.toList.length = bs.size := by
  unfold ByteArray.toList
  rw [loop_len bs bs.size 0 [] (by omega)]
  simp
theorem empty_holds (g : Nat) : Holds (TG.empty g) [] where
  vl p := rfl
  nd p := by
    simp only [TG.empty]
    split <;> simp_all
theorem addN_skip (S : NS) (x : S28) (h : x.f0.size = 0 ∨ 8 < x.f0.size) : addN S x = S := by
  unfold addN
  rw [if_pos]
  rcases h with h | h
  · exact .inl h
  · exact .inr (.inl h)
theorem addN_old (S : NS) (x : S28) (h : (S.get x.f0.data.toList).isSome = true) : addN S x = S := by
  unfold addN
  rw [if_pos (.inr (.inr h))]
theorem addN_new (S : NS) (x : S28) (h0 : ¬ x.f0.size = 0) (h1 : ¬ 8 < x.f0.size) (h : S.get x.f0.data.toList = none) : addN S x = S ++ [(x.f0.data.toList, x.f1)] := by
  unfold addN
  rw [if_neg]
  rintro (h2 | h2 | h2)
  · exact h0 h2
  · exact h1 h2
  · rw [h] at h2
    cases h2

/-- what stands between two names -/
structure Nw (w wr : World) (g : Nat) (S : NS) : Prop where
  ex : ∃ t, TrieAt wr w.heap.size g S.length t ∧ Holds t S
  bel : Below w.heap.size w wr
theorem Nw.alloc {w wr : World} {g : Nat} {S : NS} (h : Nw w wr g S) (o : Obj) : Nw w (wr.alloc o) g S := by
  obtain ⟨⟨t, h1, h2⟩, h3⟩ := h
  exact ⟨⟨t, h1.alloc o, h2⟩, h3.alloc h3.size o⟩

section
variable {w W wr : World} {g cnt bx b8 : Nat} {t : TG} {S : NS} {q : List UInt8} {b : Nat}
theorem Mid.looks (h : Mid w W wr g cnt bx b8 t S q b) {m : Nat} (hm : t.mp q = some m) (c : UInt8) : (Instr.lookup 40 (.map (some m)) (kc c) false).run Try.prog wr = .ok (optP (t.nd (q ++ [c]))) wr := by
  have := h.at_.look h.here c (P := Try.prog) (T := 40) Try.underlying40 Try.underlying5 (zero45 wr)
  rwa [hm] at this
theorem Mid.newer (h : Mid w W wr g cnt bx b8 t S q b) {m : Nat} (hm : t.mp q = some m) {c : UInt8} (hn : t.nd (q ++ [c]) = none) :
    ∃ w2, (Instr.mapUpdate 40 (.map (some m)) (kc c) (.pointer (some ⟨wr.heap.size, 0, none⟩))).run Try.prog (wr.alloc (.cells #[.map none, .bool false, .int .i64 0] 42)) = .ok () w2 ∧
      (∃ t2, Mid w W w2 g cnt bx b8 t2 S (q ++ [c]) wr.heap.size) ∧ w2.cell? ⟨b, 0, none⟩ = some (.map (some m)) ∧
      (Instr.lookup 40 (.map (some m)) (kc c) false).run Try.prog w2 = .ok (.pointer (some ⟨wr.heap.size, 0, none⟩)) w2 := by
  obtain ⟨w2, h1, h2⟩ := h.new hm hn (P := Try.prog) (T := 40) Try.underlying40 Try.underlying5
  have hq : (t.grow (q ++ [c]) wr.heap.size).nd q = some b := by
    have : q ≠ q ++ [c] := fun e => by simpa using congrArg List.length e
    simp only [TG.grow, if_neg this]
    exact h.here
  have hm2 : (t.grow (q ++ [c]) wr.heap.size).mp q = some m := hm
  refine ⟨w2, h1, ⟨_, h2⟩, ?_, ?_⟩
  · rw [h2.at_.c0 hq, hm2]
  · have := h2.at_.look hq c (P := Try.prog) (T := 40) Try.underlying40 Try.underlying5 (zero45 w2)
    rw [hm2] at this
    rw [this]
    simp [TG.grow, optP]
end

set_option maxRecDepth 100000 in
set_option maxHeartbeats 4000000 in
theorem new_calls (A : Option Addr) (c : Nat) (l : List S28) (w : World) (hC : Kd.C k28 w A l.length l) (hc : l.length ≤ c) (hl : l.length ≤ 1000000) :
    Calls Try.prog 9 #[.slice A l.length c] w fun e w' => ∃ g, e = .returned (.pointer (some ⟨g, 0, none⟩)) ∧ Nw w w' g (nmz l) := by
  have HC := Aside0.mk hC
  clear hC
  have hnew : Nw w (w.alloc (.cells #[.map none, .bool false, .int .i64 0, .int .i64 0] 44)) w.heap.size (nmz (l.take 0)) :=
    ⟨⟨TG.empty w.heap.size, TrieAt.new (Blk.new w 44 _) (Nat.le_refl _), empty_holds _⟩, (Below.refl _ _).alloc (Nat.le_refl _) _⟩
  have HN := Aside0.mk hnew
  clear hnew
  have hmm := @run_makeMap Try.prog
  have qT : ∀ (w : World) (r : Option Nat), (binOp .eql 40 (.map r) (.map none)).run Try.prog w = .ok (.bool r.isNone) w := fun w r => run_eql_map_nil w _ _ _ r Try.underlying40
  go_enter Try.func9, Try.ntmps9
  go_wp2
  go_loopw [5, 6, 8, 13] (fun v5 v6 v8 v13 wr => ∃ j : Nat, j ≤ l.length ∧ v13 = .int .i64 (j : Int) ∧ Aside0 (Nw w wr w.heap.size (nmz (l.take j)))) (fun _ _ _ v13 _ => l.length - (intOf v13).toNat)
  case atStart => exact ⟨0, by omega, rfl, HN⟩
  case round =>
  obtain ⟨j, hj, rfl, HR⟩ := hrel
  rename World => wo
  by_cases hlt : j < l.length
  · have hlt' : (j : Int) < l.length := by omega
    obtain ⟨ad, e0, e1, e2⟩ := at_T28 (Kd.C_below HC.out HR.out.bel) (j : Int) (by omega) hlt'
    obtain rfl := e0
    simp only [Int.toNat_natCast] at e1 e2
    have hxl : l[j]? = some (rd_T28 l (j : Int)) := by
      unfold rd_T28
      rw [Int.toNat_natCast, List.getD_eq_getElem?_getD, List.getElem?_eq_getElem hlt]
      rfl
    obtain ⟨x, hx⟩ : ∃ x, rd_T28 l (j : Int) = x := ⟨_, rfl⟩
    rw [hx] at e1 e2 hxl
    clear hx
    have hst := nmz_step l j x hxl
    clear hxl
    obtain ⟨S, hS⟩ : ∃ S, nmz (l.take j) = S := ⟨_, rfl⟩
    have hSl : S.length ≤ 1000000 := by
      rw [← hS]
      have h1 := nmz_len (l.take j)
      rw [List.length_take] at h1
      omega
    rw [hS] at hst HR
    clear hS
    have HS := Aside0.mk hst
    clear hst
    obtain ⟨x0, x1⟩ := x
    simp only at e1 e2
    by_cases h0 : x0.size = 0
    · have hx0 : x0 = ⟨#[]⟩ := by
        obtain ⟨d⟩ := x0
        have : d.size = 0 := h0
        rw [Array.size_eq_zero_iff.1 this]
      subst hx0
      have HE := Aside0.mk (addN_skip S ⟨⟨#[]⟩, x1⟩ (.inl h0))
      go_wp2
      go_roundw
      case measure => (first | (show l.length - (wrap64 ((j:Int)+1)).toNat < l.length - ((j:Int)).toNat; rw [wrap_id _ (by omega) (by omega)]; omega) | (show l.length - ((j:Int)+1).toNat < l.length - ((j:Int)).toNat; omega))
      case rel => first | exact ⟨j + 1, by omega, by go_num, by rw [HS.out, HE.out]; exact ⟨HR.out.alloc _⟩⟩ | ((repeat apply Exists.intro); exact ⟨⟨j + 1, by omega, by go_num, by rw [HS.out, HE.out]; exact ⟨HR.out.alloc _⟩⟩, rfl⟩)
    · have hx0 : x0.toList.isEmpty = false := by
        cases e : x0.toList with
        | nil =>
          have := toList_len x0
          rw [e] at this
          exact absurd this.symm h0
        | cons _ _ => rfl
      by_cases h8 : 8 < x0.size
      · have h8' : (8 : Int) < x0.size := by omega
        have HE := Aside0.mk (addN_skip S ⟨x0, x1⟩ (.inr h8))
        go_wp2
        go_roundw
        case measure => (first | (show l.length - (wrap64 ((j:Int)+1)).toNat < l.length - ((j:Int)).toNat; rw [wrap_id _ (by omega) (by omega)]; omega) | (show l.length - ((j:Int)+1).toNat < l.length - ((j:Int)).toNat; omega))
        case rel => first | exact ⟨j + 1, by omega, by go_num, by rw [HS.out, HE.out]; exact ⟨HR.out.alloc _⟩⟩ | ((repeat apply Exists.intro); exact ⟨⟨j + 1, by omega, by go_num, by rw [HS.out, HE.out]; exact ⟨HR.out.alloc _⟩⟩, rfl⟩)
      · have h8' : ¬ (8 : Int) < x0.size := by omega
        obtain ⟨t0, ht0, hh0⟩ := HR.out.ex
        have hM := Mid.start ht0 hh0 HR.out.bel (.cells #[.string x0, .int .i64 x1] 28) x0
        clear ht0 hh0
        have kb := print_bytes (P := Try.prog) 9 32 5 Try.underlying9 Try.underlying32 Try.underlying5 x0 (wo.alloc (.cells #[.string x0, .int .i64 x1] 28))
        have BC := fun k hk => bytes_cell (wo.alloc (.cells #[.string x0, .int .i64 x1] 28)) x0 (by omega) k hk
        have BX : (Lib.bytesWorld (wo.alloc (.cells #[.string x0, .int .i64 x1] 28)) 5 x0).cell? ⟨wo.heap.size, 1, none⟩ = some (.int .i64 x1) :=
          ((Blk.new wo 28 #[.string x0, .int .i64 x1]).below (bytes_below (Below.refl (wo.alloc (.cells #[.string x0, .int .i64 x1] 28)).heap.size _) (Nat.le_refl _) 5 x0) (by simp)).cell 1
        rw [World.size_alloc] at kb BC
        obtain ⟨L, hL⟩ : ∃ L, x0.data.toList = L := ⟨_, rfl⟩
        obtain ⟨W, hW⟩ : ∃ W, Lib.bytesWorld (wo.alloc (.cells #[.string x0, .int .i64 x1] 28)) 5 x0 = W := ⟨_, rfl⟩
        obtain ⟨cap, hcap⟩ : ∃ cap, grownCap (wo.alloc (.cells #[.string x0, .int .i64 x1] 28)) x0.size 0 5 = cap := ⟨_, rfl⟩
        obtain ⟨n, hn⟩ : ∃ n, x0.size = n := ⟨_, rfl⟩
        have hLn : L.length = n := by rw [← hL, ← hn, data_length]
        rw [hW, hcap, hn] at kb
        rw [hL, hW] at BC
        rw [hW] at hM BX
        have HB := Aside0.mk BC
        have HX := Aside0.mk BX
        have HM := Aside0.mk hM
        have HA := Aside0.mk (show (S.get L).isSome = true → addN S ⟨x0, x1⟩ = S by rw [← hL]; exact addN_old S ⟨x0, x1⟩)
        have HE := Aside0.mk (show S.get L = none → addN S ⟨x0, x1⟩ = S ++ [(L, x1)] by rw [← hL]; exact addN_new S ⟨x0, x1⟩ h0 h8)
        have hn0 : 0 < n := by omega
        have hn8 : n ≤ 8 := by omega
        have hn8' : ¬ (8 : Int) < n := by omega
        clear h8'
        have hl1 : L.length ≤ n := by omega
        have hl2 : n ≤ L.length := by omega
        have HLn := Aside0.mk hLn
        have HNN := Aside0.mk hn
        clear hM BX BC hW hL hcap hLn
        go_wp2
        go_loopw [6, 8, 33] (fun v6 v8 v33 wi => ∃ k : Nat, k ≤ n ∧ v33 = .int .i64 (k : Int) ∧ (∃ b, v6 = .pointer (some ⟨b, 0, none⟩) ∧ Aside0 (∃ t, Mid w W wi w.heap.size S.length wo.heap.size (wo.heap.size + 1) t S (L.take k) b))) (fun _ _ v33 _ => n - (intOf v33).toNat)
        case atStart => exact ⟨0, by omega, rfl, ⟨w.heap.size, rfl, ⟨⟨t0, HM.out⟩⟩⟩⟩
        case round =>
        obtain ⟨k, hk, rfl, ⟨b, rfl, HT⟩⟩ := hrel
        rename World => wi
        obtain ⟨t, hMi⟩ := HT.out
        clear HT
        by_cases hkn : k < n
        · have hkn' : (k : Int) < n := by omega
          have hsn := take_snoc L k (by omega)
          have bc := hMi.cell8 (HB.out k (by omega))
          obtain ⟨c8, hc8⟩ : ∃ c8, L.getD k 0 = c8 := ⟨_, rfl⟩
          rw [hc8] at hsn bc
          clear hc8
          have c0 := hMi.at_.c0 hMi.here
          have f0 := hMi.at_.fr hMi.here 0
          have HSN := Aside0.mk hsn
          clear hsn
          have N1 := Aside0.mk trivial
          have N2 := Aside0.mk trivial
          cases hm : t.mp (L.take k) with
          | none =>
            rw [hm] at c0
            have ca0 := (hMi.at_.alloc (.map #[] 0)).c0 hMi.here
            rw [hm] at ca0
            have fa0 := (hMi.at_.alloc (.map #[] 0)).fr hMi.here 0
            have hM1 := hMi.map hm
            have hn1 : t.nd (L.take k ++ [c8]) = none := hMi.at_.leaf _ _ hm
            have hm1 : (t.withMap (L.take k) wi.heap.size).mp (L.take k) = some wi.heap.size := by simp [TG.withMap]
            have hlk1 := hM1.looks hm1 c8
            have hn1' : (t.withMap (L.take k) wi.heap.size).nd (L.take k ++ [c8]) = none := hn1
            rw [hn1'] at hlk1
            obtain ⟨w2, hst, hM2, c2, hlk2⟩ := hM1.newer hm1 hn1'
            have hlk1' : (Instr.lookup 40 (.map (some wi.heap.size)) (kc c8) false).run Try.prog ((wi.alloc (.map #[] 0)).setCell ⟨b, 0, none⟩ (.map (some wi.heap.size))) = .ok (.pointer none) ((wi.alloc (.map #[] 0)).setCell ⟨b, 0, none⟩ (.map (some wi.heap.size))) := hlk1
            clear hlk1
            have HM2 := Aside0.mk hM2
            clear hMi hM1 hM2 hm hn1 hn1' hm1
            go_upto_region 12 with (fail)
            obtain ⟨w1, hw1⟩ : ∃ w1, (wi.alloc (.map #[] 0)).setCell ⟨b, 0, none⟩ (.map (some wi.heap.size)) = w1 := ⟨_, rfl⟩
            have d0 : ((wi.alloc (.map #[] 0)).setCell ⟨b, 0, none⟩ (.map (some wi.heap.size))).cell? ⟨b, 0, none⟩ = some (.map (some wi.heap.size)) := by
              refine World.cell?_setCell_same' _ _ _ ?_
              rw [ca0]
              rfl
            rw [hw1] at d0 hlk1' hst HM2 hlk2 ⊢
            clear hw1 c0 f0 hmm ca0 fa0
            go_wp2_with (first
              | (at_lookup; (have gA := N1.out; clear gA N1); refine wpList_lookup_run _ rfl _ _ 40 rfl _ _ _ rfl rfl hlk1' ?_)
              | (at_mapUpdate; refine wpList_update_run _ rfl _ _ _ 40 rfl _ _ _ w2 rfl rfl rfl hst ?_)
              | (at_lookup; (have gA := N2.out; clear gA N2); refine wpList_lookup_run _ rfl _ _ 40 rfl _ _ _ rfl rfl hlk2 ?_))
            go_roundw
            case measure => (first | (show n - (wrap64 ((k:Int)+1)).toNat < n - ((k:Int)).toNat; rw [wrap_id _ (by omega) (by omega)]; omega) | (show n - ((k:Int)+1).toNat < n - ((k:Int)).toNat; omega))
            case rel => first | exact ⟨k + 1, by omega, by go_num, ⟨_, rfl, by rw [← HSN.out]; exact HM2⟩⟩ | ((repeat apply Exists.intro); exact ⟨⟨k + 1, by omega, by go_num, ⟨_, rfl, by rw [← HSN.out]; exact HM2⟩⟩, rfl⟩)
          | some m =>
            rw [hm] at c0
            have hlk1 := hMi.looks hm c8
            cases hn1 : t.nd (L.take k ++ [c8]) with
            | none =>
              rw [hn1] at hlk1
              obtain ⟨w2, hst, hM2, c2, hlk2⟩ := hMi.newer hm hn1
              have hlk1' : (Instr.lookup 40 (.map (some m)) (kc c8) false).run Try.prog wi = .ok (.pointer none) wi := hlk1
              clear hlk1
              have HM2 := Aside0.mk hM2
              clear hMi hM2 hm hn1 f0 hmm
              go_wp2_with (first
                | (at_lookup; (have gA := N1.out; clear gA N1); refine wpList_lookup_run _ rfl _ _ 40 rfl _ _ _ rfl rfl hlk1' ?_)
                | (at_mapUpdate; refine wpList_update_run _ rfl _ _ _ 40 rfl _ _ _ w2 rfl rfl rfl hst ?_)
                | (at_lookup; (have gA := N2.out; clear gA N2); refine wpList_lookup_run _ rfl _ _ 40 rfl _ _ _ rfl rfl hlk2 ?_))
              go_roundw
              case measure => (first | (show n - (wrap64 ((k:Int)+1)).toNat < n - ((k:Int)).toNat; rw [wrap_id _ (by omega) (by omega)]; omega) | (show n - ((k:Int)+1).toNat < n - ((k:Int)).toNat; omega))
              case rel => first | exact ⟨k + 1, by omega, by go_num, ⟨_, rfl, by rw [← HSN.out]; exact HM2⟩⟩ | ((repeat apply Exists.intro); exact ⟨⟨k + 1, by omega, by go_num, ⟨_, rfl, by rw [← HSN.out]; exact HM2⟩⟩, rfl⟩)
            | some b' =>
              rw [hn1] at hlk1
              have hlk1' : (Instr.lookup 40 (.map (some m)) (kc c8) false).run Try.prog wi = .ok (.pointer (some ⟨b', 0, none⟩)) wi := hlk1
              clear hlk1
              have HM2 := Aside0.mk (show ∃ t, Mid w W wi w.heap.size S.length wo.heap.size (wo.heap.size + 1) t S (L.take k ++ [c8]) b' from ⟨t, hMi.go hn1⟩)
              clear hMi hm hn1 f0 hmm
              go_wp2_with (at_lookup; refine wpList_lookup_run _ rfl _ _ 40 rfl _ _ _ rfl rfl hlk1' ?_)
              go_roundw
              case measure => (first | (show n - (wrap64 ((k:Int)+1)).toNat < n - ((k:Int)).toNat; rw [wrap_id _ (by omega) (by omega)]; omega) | (show n - ((k:Int)+1).toNat < n - ((k:Int)).toNat; omega))
              case rel => first | exact ⟨k + 1, by omega, by go_num, ⟨_, rfl, by rw [← HSN.out]; exact HM2⟩⟩ | ((repeat apply Exists.intro); exact ⟨⟨k + 1, by omega, by go_num, ⟨_, rfl, by rw [← HSN.out]; exact HM2⟩⟩, rfl⟩)
        · obtain rfl : k = n := by omega
          have hLk : L.take k = L := List.take_of_length_le (by omega)
          rw [hLk] at hMi
          clear hLk
          have c1 := hMi.at_.c1 hMi.here
          rw [hMi.vl] at c1
          cases hg : S.get L with
          | some r =>
            rw [hg] at c1
            simp only [Option.isSome_some] at c1
            have HF := Aside0.mk (show Nw w wi w.heap.size (addN S ⟨x0, x1⟩) by
              rw [HA.out (by rw [hg]; rfl)]
              exact ⟨⟨t, hMi.at_, hMi.old (by rw [hg]; rfl)⟩, hMi.bel⟩)
            clear hMi hg hmm
            go_wp2
            go_roundw
            case measure => (first | (show l.length - (wrap64 ((j:Int)+1)).toNat < l.length - ((j:Int)).toNat; rw [wrap_id _ (by omega) (by omega)]; omega) | (show l.length - ((j:Int)+1).toNat < l.length - ((j:Int)).toNat; omega))
            case rel => first | exact ⟨j + 1, by omega, by go_num, by rw [HS.out]; exact HF⟩ | ((repeat apply Exists.intro); exact ⟨⟨j + 1, by omega, by go_num, by rw [HS.out]; exact HF⟩, rfl⟩)
          | none =>
            rw [hg] at c1
            simp only [Option.isSome_none] at c1
            have hL0 : L ≠ [] := by
              rintro rfl
              simp at hl2
              omega
            have cx := hMi.cellx HX.out
            have c3 := hMi.at_.c3
            have f1 := hMi.at_.fr hMi.here 1
            have f2 := hMi.at_.fr hMi.here 2
            have f3 := hMi.at_.fr hMi.at_.root 3
            have hbg : b ≠ w.heap.size := fun e => hL0 (hMi.at_.inj L [] w.heap.size (by rw [hMi.here, e]) hMi.at_.root)
            have hbx := (hMi.offn L b hMi.here).1
            have HE2 := Aside0.mk (HE.out hg)
            have HF := Aside0.mk (show Nw w (((wi.setCell ⟨b, 1, none⟩ (.bool true)).setCell ⟨b, 2, none⟩ (.int .i64 x1)).drew.setCell ⟨w.heap.size, 3, none⟩ (.int .i64 ((S.length : Int) + 1))) w.heap.size (S ++ [(L, x1)]) by
              obtain ⟨h1, h2, h3⟩ := hMi.end_ hL0 hg x1
              have e : ((S.length + 1 : Nat) : Int) = (S.length : Int) + 1 := by omega
              rw [e] at h1 h3
              exact ⟨⟨_, by rw [List.length_append]; exact h1.step (fun k _ _ => rfl), h2⟩, ⟨h3.os, h3.tape, h3.output, h3.size, h3.block⟩⟩)
            have HRt := Aside0.mk ((((hMi.at_.node [] w.heap.size hMi.at_.root).2.far (p := ⟨b, 1, none⟩) (Ne.symm hbg) (.bool true)).far (p := ⟨b, 2, none⟩) (Ne.symm hbg) (.int .i64 x1)).drew)
            have d2 := hMi.at_.c2 hMi.here
            clear hMi hg hmm
            go_upto_region 17 with (fail)
            go_region
            obtain ⟨w5, hw5⟩ : ∃ w5, ((wi.setCell ⟨b, 1, none⟩ (.bool true)).setCell ⟨b, 2, none⟩ (.int .i64 x1)).drew = w5 := ⟨_, rfl⟩
            rw [hw5] at HF HRt ⊢
            have d3 : w5.cell? ⟨w.heap.size, 3, none⟩ = some (.int .i64 (S.length : Int)) := HRt.out.cell 3
            have f5 : w5.frozen? ⟨w.heap.size, 3, none⟩ = false := HRt.out.frozen 3
            have hS1 : (S.length : Int) ≤ 1000000 := by omega
            clear hw5 c1 c3 cx f1 f2 f3 d2
            go_wp2
            go_roundw
            case measure => (first | (show l.length - (wrap64 ((j:Int)+1)).toNat < l.length - ((j:Int)).toNat; rw [wrap_id _ (by omega) (by omega)]; omega) | (show l.length - ((j:Int)+1).toNat < l.length - ((j:Int)).toNat; omega))
            case rel => first | exact ⟨j + 1, by omega, by go_num, by rw [HS.out, HE2.out]; exact HF⟩ | ((repeat apply Exists.intro); exact ⟨⟨j + 1, by omega, by go_num, by rw [HS.out, HE2.out]; exact HF⟩, rfl⟩)
  · obtain rfl : j = l.length := by omega
    go_wp2
    go_ret
    exact ⟨_, rfl, by have := HR.out; rwa [List.take_length] at this⟩
end Go.Proofs.Ytkidfbapnkegmaa.P
