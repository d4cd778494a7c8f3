/- The reference's RunWaiting. -/
import Derived.Test.YtklobepkihdbkaaRw
namespace Go.Proofs.Ytklobepkihdbkaa.RwS
open Go.RowKit Go.Proofs.YtklobepkihdbkaaW.PrintWords Go.Proofs.YtklobepkihdbkaaW.PrintLast Go.Proofs.YtklobepkihdbkaaW.PrintMore Wp WpG WpI WpJ WpS Rw
set_option linter.unusedVariables false
set_option linter.unusedSimpArgs false
set_option maxRecDepth 100000 in
set_option maxHeartbeats 4000000 in
theorem run_good {As Ad : Option Addr} {cs cd : Nat} {slots draws : List Int} {m : Nat} {limit : Int} (w : World) (hs : (Kd.int .i64).C w As slots.length slots) (hcs : slots.length ≤ cs) (hd : (Kd.int .i64).C w Ad draws.length draws) (hcd : draws.length ≤ cd) (hm : m ≤ 16) (h1 : 1 ≤ limit) (h2 : limit ≤ 32) (hn : slots.length ≤ 2000) (hp : ∀ x ∈ slots, 0 ≤ x) (hdl : draws.length ≤ 1048576) :
    Calls Try.prog 15 #[.int .i64 m, .int .i64 limit, .slice As slots.length cs, .slice Ad draws.length cd] w fun e w' => ∃ v : Value, e = .returned (.tuple #[v, .bool true]) ∧ (Kd.int .i64).R 3 w' w.heap.size (fun _ => True) v (lefts m limit slots draws slots.length) ∧ Below w.heap.size w w' := by
  have HN := Lib.hid (spec_new_is m hm limit)
  have HGW := Lib.hid (good_new (m := m) hm h1 h2)
  have HS := Lib.hid hs
  have HD := Lib.hid hd
  have HP := Lib.hid hp
  clear hs hd hp
  go_enter Try.func15, Try.ntmps15
  go_upto_block 0 with fail
  go_cut [] (fun wx => w = wx)
  case first =>
    go_wp2_with fail
    go_loopw [39] (fun i wr => ∃ j : Nat, i = .int .i64 j ∧ j ≤ slots.length ∧ w = wr) (fun i _ => slots.length - (intOf i).toNat)
    case atStart => exact ⟨0, rfl, Nat.zero_le _, rfl⟩
    case round =>
      obtain ⟨j, rfl, hj, rfl⟩ := hrel
      by_cases hlt : j < slots.length
      · obtain ⟨ad, had, hcx⟩ := Kd.at_int HS.out (j : Int) (by omega) (by omega)
        rw [Int.toNat_natCast, show rd slots (j : Int) = slots.getD j 0 from rd_getD slots j] at hcx
        subst had
        have hx0 : 0 ≤ slots.getD j 0 := HP.out _ (by rw [List.getD_eq_getElem?_getD, List.getElem?_eq_getElem hlt]; exact List.getElem_mem _)
        obtain ⟨x, hx⟩ : ∃ x, slots.getD j 0 = x := ⟨_, rfl⟩
        rw [hx] at hcx hx0
        have hx1 : ¬ x < 0 := by omega
        go_wp2_with fail
        go_roundw
        case rel => exact ⟨j + 1, by go_num, by omega, trivial⟩
        case measure => simp [intOf]; omega

      · go_wp2_with fail
        go_meet
        exact rfl
  case rest =>
    obtain rfl := hcut
    go_wp2_with fail
    refine (PFnExactRunWaiting.spec_l5New.calls _ _ _ _ _ _ _ HN.out).mono ?_
    rintro e w1 ⟨v1, v2, rfl, hR1, hR2, hB1⟩
    obtain ⟨A1, c1, A2, c2, rfl, rfl, hc1, hI⟩ := rinv_new (limit := limit) (slots := slots) (draws := draws) hR1 hR2 hB1
    have HI := Lib.hid hI
    clear hR1 hR2 hB1 hI
    obtain ⟨g, hg⟩ : ∃ g, w1.heap.size = g := ⟨_, rfl⟩
    rw [hg] at HI
    go_upto_block 2 with fail
    obtain ⟨w2, hw2⟩ : ∃ x, w1.alloc (.cells #[.slice A1 m c1, .slice A2 0 c2, .int .i64 limit] 26) = x := ⟨_, rfl⟩
    rw [hw2] at HI ⊢
    have hgl : g < w2.heap.size := by rw [← hw2, ← hg]; simp
    have HI4 := HI
    go_wp2_with fail
    go_loopw [12, 51] (fun vo i wr => ∃ j : Nat, i = .int .i64 j ∧ j ≤ slots.length ∧ Hid (RInv w g m limit slots draws j j vo wr)) (fun _ i _ => slots.length - (intOf i).toNat)
    case atStart => exact ⟨0, rfl, Nat.zero_le _, HI4⟩
    case round =>
      clear HI4
      obtain ⟨j, rfl, hj, HI⟩ := hrel
      by_cases hlt : j < slots.length
      · obtain ⟨lo, hi, A1, A2, c1, c2, _, _, h3, hbox, hr1, hr2, ho, hB⟩ := HI.out
        obtain ⟨ad, had, hcx⟩ := Kd.at_int (Kd.C_below HS.out hB) (j : Int) (by omega) (by omega)
        rw [Int.toNat_natCast, show rd slots (j : Int) = slots.getD j 0 from rd_getD slots j] at hcx
        subst had
        have hx0 : 0 ≤ slots.getD j 0 := HP.out _ (by rw [List.getD_eq_getElem?_getD, List.getElem?_eq_getElem hlt]; exact List.getElem_mem _)
        have HGD := Lib.hid (good_st hm h1 h2 HP.out draws j)
        have HI5 := HI
        have hst1 : (st m limit slots draws (j + 1)).1 = mixed (st m limit slots draws j).1 (slots.getD j 0) (draws.getD j 0) := rfl
        have hst2 : (st m limit slots draws (j + 1)).2 = fifoTo (st m limit slots draws j).2 limit (mixOut (st m limit slots draws j).1 (slots.getD j 0) (draws.getD j 0)) := rfl
        have hlf := lefts_succ m limit slots draws j
        have hcdd : ∀ bd, Ad = some bd → j < draws.length → wr.cell? (bd.add j) = some (.int .i64 (draws.getD j 0)) := fun bd hbd hd => by
          obtain ⟨bd', hbd', hcd⟩ := Kd.at_int (Kd.C_below HD.out hB) (j : Int) (by omega) (by omega)
          obtain rfl := Option.some.inj (hbd.symm.trans hbd')
          rw [Int.toNat_natCast, show rd draws (j : Int) = draws.getD j 0 from rd_getD draws j] at hcd
          exact hcd
        have hadd : j < draws.length → ∃ bd, Ad = some bd := fun hd => by
          obtain ⟨bd', hbd', _⟩ := Kd.at_int (Kd.C_below HD.out hB) (j : Int) (by omega) (by omega)
          exact ⟨bd', hbd'⟩
        have hd0 : ¬ j < draws.length → draws.getD j 0 = 0 := fun h => by rw [List.getD_eq_getElem?_getD, List.getElem?_eq_none (by omega)]; rfl
        have HC1 := Lib.hid (Kd.R_reads' hr1)
        have HC2 := Lib.hid (Kd.R_reads' hr2)
        have ⟨k0, k1, k2⟩ := WpL.cells3 hbox
        obtain ⟨mx, hmx⟩ : ∃ x, (st m limit slots draws j).1 = x := ⟨_, rfl⟩
        obtain ⟨ff, hff⟩ : ∃ x, (st m limit slots draws j).2 = x := ⟨_, rfl⟩
        obtain ⟨x, hx⟩ : ∃ x, slots.getD j 0 = x := ⟨_, rfl⟩
        obtain ⟨d, hd⟩ : ∃ x, draws.getD j 0 = x := ⟨_, rfl⟩
        rw [hmx, hx, hd] at hst1
        rw [hmx, hff, hx, hd] at hst2 hlf
        rw [hmx] at HC1 k0
        rw [hff] at HC2 k1
        rw [hmx, hff] at HGD
        rw [hx] at hcx hx0
        rw [hd] at hd0 hcdd
        have HL := Lib.hid hlf
        have HS1 := Lib.hid hst1
        have HS2 := Lib.hid hst2
        have HBX := Lib.hid hbox
        clear h3 hr1 hr2 ho hbox hst1 hst2 hlf HI hmx hff hx hd hB
        by_cases hdl2 : j < draws.length
        · obtain ⟨bd, rfl⟩ := hadd hdl2
          have hcd2 := hcdd bd rfl hdl2
          clear hcdd hadd hd0
          go_wp2_with fail
          refine (WpS.push_good wr HC1.out.2.2 HC1.out.2.1 HC2.out.2.2 HC2.out.2.1 HGD.out hx0).mono ?_
          rintro e w5 ⟨v1, v2, rfl, hR1, hR2, hB5⟩
          rw [← HS1.out] at hR1
          rw [← HS2.out] at hR2
          obtain ⟨C1, e1, rfl⟩ := Kd.R_slice hR1
          obtain ⟨C2, e2, rfl⟩ := Kd.R_slice hR2
          have HI6 := Lib.hid (HI5.out.push hR1 hR2 hB5)
          have hb5 := (hB5.block _ (blk_lt HBX.out)).trans HBX.out
          have f0 := blk_frozen hb5 0
          have f1 := blk_frozen hb5 1
          have f2 := blk_frozen hb5 2
          have ⟨k3, k4, k5⟩ := WpL.cells3 hb5
          clear hR1 hR2 hb5 HI5 k0 k1 k2 HC1 HC2 HS1 HS2 HBX
          go_upto_region 19 with fail
          obtain ⟨w6, hw6⟩ : ∃ y, (((w5.setCell ⟨g, 0, none⟩ (.slice C1 (st m limit slots draws (j + 1)).1.length e1)).setCell ⟨g, 1, none⟩ (.slice C2 (st m limit slots draws (j + 1)).2.length e2)).setCell ⟨g, 2, none⟩ (.int .i64 limit)) = y := ⟨_, rfl⟩
          rw [hw6] at HI6 ⊢
          clear hw6 k3 k4 k5 f0 f1 f2
          obtain ⟨lo, hi, D1, D2, d1, d2, g1, g2, g3, hbox, hr1, hr2, ho, hB⟩ := HI6.out
          obtain ⟨Ao, co, rfl, _, _⟩ := Kd.R_reads ho
          have hll := lefts_len m limit slots draws j
          obtain ⟨y, hy⟩ : ∃ y, fifoOut ff limit (mixOut mx x d) = y := ⟨_, rfl⟩
          rw [hy] at HL ⊢
          rw [hll] at ho ⊢
          have hown := ho.1
          have hzb := hB.size
          have HO := Lib.hid ho
          have HB := Lib.hid hB
          have HBX := Lib.hid hbox
          have HR1 := Lib.hid hr1
          have HR2 := Lib.hid hr2
          have HW := Lib.hid hown
          clear ho hB hbox hr1 hr2 hown HI6
          go_wp2_with ((with_reducible refine gate_dst (N := 74) rfl ?_); at_builtin; refine Kd.R_append (Kd.int .i64) (w0 := w) w.heap.size rfl (.tmp 71) (.tmp 73) 22 3 (.int .i64 0) 8 rfl Try.underlying22 (by kernel_rfl) rfl (by decide) (by omega) (.slice Ao j co) (lefts m limit slots draws j) y [.int .i64 y] (fun k => ¬ (lo ≤ k ∧ k < hi) ∧ k ≠ g) (fun _ => False) rfl rfl ?aP (fun _ hk => hk.elim) ?aF ?aO ?aB ?aS ?aL ?_; (case aP => exact rfl); (case aF => intro k hk; have := blk_lt HBX.out; (try simp at hk); (refine ⟨?_, ?_⟩ <;> omega)); (case aO => exact HO.out); (case aB => exact HB.out); (case aS => exact HB.out.size); (case aL => omega); intro v7 w7 hR7 hB7 hg7 hat7; rw [← HL.out] at hR7; have HN := Lib.hid (rinv_append g1 g2 g3 HBX.out HR1.out HR2.out HW.out hR7 hB7 hg7); clear hat7 hg7 hR7 hB7)
          go_roundw
          case rel => exact ⟨j + 1, by go_num, by omega, HN⟩
          case measure => simp [intOf]; omega

        · obtain rfl := hd0 hdl2
          clear hcdd hadd hd0
          go_wp2_with fail
          refine (WpS.push_good wr HC1.out.2.2 HC1.out.2.1 HC2.out.2.2 HC2.out.2.1 HGD.out hx0).mono ?_
          rintro e w5 ⟨v1, v2, rfl, hR1, hR2, hB5⟩
          rw [← HS1.out] at hR1
          rw [← HS2.out] at hR2
          obtain ⟨C1, e1, rfl⟩ := Kd.R_slice hR1
          obtain ⟨C2, e2, rfl⟩ := Kd.R_slice hR2
          have HI6 := Lib.hid (HI5.out.push hR1 hR2 hB5)
          have hb5 := (hB5.block _ (blk_lt HBX.out)).trans HBX.out
          have f0 := blk_frozen hb5 0
          have f1 := blk_frozen hb5 1
          have f2 := blk_frozen hb5 2
          have ⟨k3, k4, k5⟩ := WpL.cells3 hb5
          clear hR1 hR2 hb5 HI5 k0 k1 k2 HC1 HC2 HS1 HS2 HBX
          go_upto_region 19 with fail
          obtain ⟨w6, hw6⟩ : ∃ y, (((w5.setCell ⟨g, 0, none⟩ (.slice C1 (st m limit slots draws (j + 1)).1.length e1)).setCell ⟨g, 1, none⟩ (.slice C2 (st m limit slots draws (j + 1)).2.length e2)).setCell ⟨g, 2, none⟩ (.int .i64 limit)) = y := ⟨_, rfl⟩
          rw [hw6] at HI6 ⊢
          clear hw6 k3 k4 k5 f0 f1 f2
          obtain ⟨lo, hi, D1, D2, d1, d2, g1, g2, g3, hbox, hr1, hr2, ho, hB⟩ := HI6.out
          obtain ⟨Ao, co, rfl, _, _⟩ := Kd.R_reads ho
          have hll := lefts_len m limit slots draws j
          obtain ⟨y, hy⟩ : ∃ y, fifoOut ff limit (mixOut mx x 0) = y := ⟨_, rfl⟩
          rw [hy] at HL ⊢
          rw [hll] at ho ⊢
          have hown := ho.1
          have hzb := hB.size
          have HO := Lib.hid ho
          have HB := Lib.hid hB
          have HBX := Lib.hid hbox
          have HR1 := Lib.hid hr1
          have HR2 := Lib.hid hr2
          have HW := Lib.hid hown
          clear ho hB hbox hr1 hr2 hown HI6
          go_wp2_with ((with_reducible refine gate_dst (N := 74) rfl ?_); at_builtin; refine Kd.R_append (Kd.int .i64) (w0 := w) w.heap.size rfl (.tmp 71) (.tmp 73) 22 3 (.int .i64 0) 8 rfl Try.underlying22 (by kernel_rfl) rfl (by decide) (by omega) (.slice Ao j co) (lefts m limit slots draws j) y [.int .i64 y] (fun k => ¬ (lo ≤ k ∧ k < hi) ∧ k ≠ g) (fun _ => False) rfl rfl ?aP (fun _ hk => hk.elim) ?aF ?aO ?aB ?aS ?aL ?_; (case aP => exact rfl); (case aF => intro k hk; have := blk_lt HBX.out; (try simp at hk); (refine ⟨?_, ?_⟩ <;> omega)); (case aO => exact HO.out); (case aB => exact HB.out); (case aS => exact HB.out.size); (case aL => omega); intro v7 w7 hR7 hB7 hg7 hat7; rw [← HL.out] at hR7; have HN := Lib.hid (rinv_append g1 g2 g3 HBX.out HR1.out HR2.out HW.out hR7 hB7 hg7); clear hat7 hg7 hR7 hB7)
          go_roundw
          case rel => exact ⟨j + 1, by go_num, by omega, HN⟩
          case measure => simp [intOf]; omega

      · obtain rfl : j = slots.length := by omega
        obtain ⟨lo, hi, A1, A2, c1, c2, _, _, h3, hbox, hr1, hr2, ho, hB⟩ := HI.out
        obtain ⟨Ao, co, rfl, _, _⟩ := Kd.R_reads ho
        have HO := Lib.hid (Kd.R_mono (ok' := fun _ => True) ho (fun _ _ => trivial))
        rw [lefts_len] at HO ⊢
        have HB := Lib.hid hB
        clear HI hbox hr1 hr2 ho hB h3
        go_wp2
        exact bodyPost_ret (v := .tuple #[.slice Ao slots.length co, .bool true]) (by simp [results, Try.results15, go_sem]) rfl ⟨_, rfl, HO.out, HB.out⟩
end Go.Proofs.Ytklobepkihdbkaa.RwS
