/- The law on drawn runs of pushes. -/
import Derived.Test.YtklobepkihdbkaaWsF
import Derived.Test.YtklobepkihdbkaaRwLaw
import Derived.Deep.QuietTactic
import Derived.BigQuiet
import Derived.IntWalk
namespace Go.Proofs.Ytklobepkihdbkaa.WsL
open Go.RowKit Go.Proofs.Ytklobepkihdbkaa.PFnExactWaitPush Go.Proofs.YtklobepkihdbkaaW.PrintWords Go.Proofs.YtklobepkihdbkaaW.PrintLast Go.Proofs.YtklobepkihdbkaaW.PrintMore Wp WpG WpI WpJ Rw RwIb RdW Drw WsF
set_option linter.unusedVariables false
set_option linter.unusedSimpArgs false
theorem pos_take_succ (l : List Int) {i : Nat} (h : i < l.length) : pos (l.take (i + 1)) = pos (l.take i) + (if 0 ≤ l.getD i 0 then 1 else 0) := by
  rw [List.take_succ_eq_append_getElem h, pos_append, pos_one]
  simp [List.getD_eq_getElem?_getD, List.getElem?_eq_getElem h]
theorem pos_le (l : List Int) : pos l ≤ l.length := by unfold pos; exact List.length_filter_le _ _
theorem pos_take_le (l : List Int) (i : Nat) : pos (l.take i) ≤ i := Nat.le_trans (pos_le _) (by simp; omega)
theorem mix_len (m : Nat) (limit : Int) (slots draws : List Int) : ∀ j, (st m limit slots draws j).1.length = m
  | 0 => by simp [st]
  | j + 1 => by simp [st, mixed, mix_len m limit slots draws j]
theorem iota_of {n : List Int} (h : n = iota n.length ∨ (-1 : Int) ∈ n) (hp : ∀ x ∈ n, 0 ≤ x) : n = iota n.length := by
  rcases h with h | h
  · exact h
  · have := hp _ h; omega
/-- The box and its first row while the row is filled. -/
def MkI (w : World) (g : Nat) (limit : Int) (j : Nat) (v : Value) (W : World) : Prop :=
  W.heap[g]? = some (.cells #[v, .slice none 0 0, .int .i64 limit] 26 (0, 0)) ∧ (Kd.int .i64).R 3 W w.heap.size (fun k => g < k) v (List.replicate j (-1)) ∧ Below w.heap.size w W ∧ w.heap.size ≤ g
theorem mk_end {w W : World} {g m : Nat} {limit : Int} {v : Value} (slots draws : List Int) (h : MkI w g limit m v W) : RInv w g m limit slots draws 0 0 (.slice none 0 0) W := by
  obtain ⟨h1, h2, h3, h4⟩ := h
  obtain ⟨A1, c1, rfl, hc1, _⟩ := Kd.R_reads h2
  rw [List.length_replicate] at h1 h2
  refine ⟨g + 1, W.heap.size, A1, none, c1, 0, .inl (by omega), by omega, h4, ?_, ?_, Kd.R_nil _ _ _ _ _, Kd.R_nil _ _ _ _ _, h3⟩
  · simpa [st] using h1
  · simp only [st, List.length_replicate]
    exact Kd.R_mono (Kd.R_bound h2) (fun k hk => ⟨hk.1, hk.2.2.1⟩)
theorem mk_start (w : World) (limit : Int) : MkI w w.heap.size limit 0 (.slice none 0 0) (w.alloc (.cells #[.slice none 0 0, .slice none 0 0, .int .i64 limit] 26)) :=
  ⟨heap_alloc_new w _, Kd.R_nil _ _ _ _ _, balloc (Below.refl _ _) _, Nat.le_refl _⟩
theorem mk_step {w W W1 : World} {g j : Nat} {limit : Int} {v v1 : Value} (h : MkI w g limit j v W) (hR : (Kd.int .i64).R 3 W1 w.heap.size (fun k => g < k) v1 (List.replicate (j + 1) (-1))) (hB : Below w.heap.size w W1) (hg : W.grownBy W1 v.ownBlock) : W1.heap[g]? = some (.cells #[v, .slice none 0 0, .int .i64 limit] 26 (0, 0)) ∧ MkI w g limit (j + 1) v1 (W1.setCell ⟨g, 0, none⟩ v1) := by
  obtain ⟨h1, h2, h3, h4⟩ := h
  have hb := blk_grown h1 hg (fun e => by have := h2.1 g e.symm; simp at this)
  exact ⟨hb, blk_set hb 0 _, Kd.R_far hR (p := ⟨g, 0, none⟩) (fun k hk => by simp; omega) _, hB.setCell (p := ⟨g, 0, none⟩) h4 _, h4⟩
set_option maxRecDepth 100000 in
set_option maxHeartbeats 4000000 in
theorem waits_law {w : World} (A : Option Addr) (c : Nat) (s : List Int) (hC : Kd.C (Kd.int .u8) w A s.length s) (hc : s.length ≤ c) (hwf : ∀ x ∈ s, (Lit.int .u8 x).wf = true) (hy : s.length * 1 ≤ 140737488351232) :
    Calls Try.prog 5 #[.slice A s.length c] w fun e w' => e = .returned (.bool true) ∧ Below w.heap.size w w' := by
  by_cases hbig : 1048576 < s.length
  · go_enter Try.func5, Try.ntmps5
    go_wp2
    go_ret
    exact ⟨rfl, Below.refl _ _⟩
  have hl : s.length ≤ 1048576 := by omega
  have hS : Bytes s := fun x hx => ⟨(bounds_u8 (hwf x hx)).1, (bounds_u8 (hwf x hx)).2⟩
  have HC := Lib.hid hC
  clear hC hwf hy
  go_enter Try.func5, Try.ntmps5
  go_wp2_with fail
  refine (draw_any w HC.out hc hS hl).mono ?_
  rintro e w1 ⟨mix, limit, slots, draws, v1, v2, hD, rfl, hR1, hR2, hB1⟩
  obtain ⟨As, cs, rfl, hcs, hC1⟩ := Kd.R_reads hR1
  obtain ⟨Ad, cd, rfl, hcd, hC2⟩ := Kd.R_reads hR2
  obtain ⟨hsl, hdl, hsi⟩ := hD
  obtain ⟨r, b, hans⟩ : ∃ r b, RwL.ans mix limit slots draws r b := by
    by_cases h : runOk mix limit slots
    · exact ⟨_, _, .inl ⟨h, rfl, rfl⟩⟩
    · exact ⟨_, _, .inr ⟨h, rfl, rfl⟩⟩
  have HAN := Lib.hid hans
  have HS := Lib.hid hC1
  have HD := Lib.hid hC2
  have HB1 := Lib.hid hB1
  clear HC hc hS hl hbig hR1 hR2 hC1 hC2 hB1 hans
  go_wp2_with fail
  refine (RwL.impl_is w1 HS.out hcs HD.out hcd (by omega) (by omega) HAN.out).mono ?_
  rintro e w2 ⟨vg, rfl, hRg, hB2⟩
  obtain ⟨Ag, cg, rfl, hcg, hCg⟩ := Kd.R_reads hRg
  have HG := Lib.hid hCg
  have HB2 := Lib.hid (bstep HB1.out hB2)
  have HS2 := Lib.hid (Kd.C_below HS.out hB2)
  have HD2 := Lib.hid (Kd.C_below HD.out hB2)
  clear HS HD HB1 hRg hCg hB2
  go_wp2_with fail
  refine (RwL.spec_is w2 HS2.out hcs HD2.out hcd (by omega) (by omega) HAN.out).mono ?_
  rintro e w3 ⟨vw, rfl, hRw, hB3⟩
  have HB3 := Lib.hid (bstep HB2.out hB3)
  have HS3 := Lib.hid (Kd.C_below HS2.out hB3)
  have HD3 := Lib.hid (Kd.C_below HD2.out hB3)
  have HG3 := Lib.hid (Kd.C_below HG.out hB3)
  clear HS2 HD2 HB2 hRw hB3 HG
  rcases HAN.out with ⟨hok, rfl, rfl⟩ | ⟨hno, rfl, rfl⟩
  · have hm0 := hok.1
    have hm1 := hok.2.1
    have h1 := hok.2.2.1
    have h2 := hok.2.2.2.1
    have hn := hok.2.2.2.2.1
    have hp := hok.2.2.2.2.2
    have hio := iota_of hsi hp
    obtain ⟨m, rfl⟩ := Int.eq_ofNat_of_zero_le hm0
    rw [Int.toNat_natCast] at HG3 hcg ⊢
    have hlen := lefts_len m limit slots draws slots.length
    rw [hlen] at hcg HG3 ⊢
    have HIO := Lib.hid hio
    have HP := Lib.hid hp
    have hm : m ≤ 16 := by omega
    clear hok hsi hio hp hm0 hm1 HAN hcg hlen
    obtain ⟨g, hg⟩ : ∃ g, w3.heap.size = g := ⟨_, rfl⟩
    have HM0 := Lib.hid (mk_start w3 limit)
    rw [hg] at HM0
    have HGZ := Lib.hid hg
    go_upto_block 0 with fail
    clear hg
    obtain ⟨w4, hw4⟩ : ∃ x, w3.alloc (.cells #[.slice none 0 0, .slice none 0 0, .int .i64 limit] 26) = x := ⟨_, rfl⟩
    rw [hw4] at HM0 ⊢
    clear hw4
    go_wp2_with fail
    go_loopw [12] (fun i W => ∃ j : Nat, i = .int .i64 j ∧ j ≤ m ∧ ∃ v, Hid (MkI w3 g limit j v W)) (fun i _ => m - (intOf i).toNat)
    case atStart => exact ⟨0, rfl, Nat.zero_le _, _, HM0⟩
    case round =>
      clear HM0
      obtain ⟨j, rfl, hj, v, HM⟩ := hrel
      by_cases hlt : j < m
      · have hex := HM.out
        have hc0 := blk_cell hex.1 0
        simp only [List.getElem?_toArray, List.getElem?_cons_zero] at hc0
        have hgl := blk_lt hex.1
        have hb0 := hex.2.2.2
        have hbs : w3.heap.size ≤ wr.heap.size := by omega
        obtain ⟨all, hall⟩ : ∃ all, List.replicate j (-1 : Int) ++ [-1] = all := ⟨_, rfl⟩
        have HA := Lib.hid (hall.symm.trans (List.replicate_succ' (n := j) (a := (-1 : Int))).symm)
        have HL := Lib.hid hall
        have HR := Lib.hid hex.2.1
        have HB := Lib.hid hex.2.2.1
        clear hex hall
        go_wp2_with ((with_reducible refine gate_dst (N := 75) rfl ?_); at_builtin; refine Kd.R_append (Kd.int .i64) (w0 := w3) w3.heap.size rfl (.tmp 73) (.tmp 74) 22 3 (.int .i64 0) 8 rfl Try.underlying22 (by kernel_rfl) rfl (by decide) (by omega) v (List.replicate j (-1)) (-1) [.int .i64 (-1)] (fun k => g < k) (fun _ => False) rfl rfl ?aP (fun _ hk => hk.elim) ?aF ?aO ?aB ?aS ?aL ?_; (case aP => exact rfl); (case aF => intro k hk; (try simp at hk); omega); (case aO => exact HR.out); (case aB => exact HB.out); (case aS => exact hbs); (case aL => rw [List.length_replicate]; omega); intro v1 w5 hR1 hB1 hg1 hat1; rw [HL.out, HA.out] at hR1; obtain ⟨A1, c1, rfl, hc1, hC1⟩ := Kd.R_reads hR1; clear hC1; have hst := mk_step HM.out hR1 hB1 hg1; rw [List.length_replicate] at hst; have hcw1 := blk_cell hst.1 0; have hfw1 := blk_frozen hst.1 0; simp only [List.getElem?_toArray, List.getElem?_cons_zero] at hcw1; have HN := Lib.hid hst.2; clear hR1 hB1 hg1 hat1 hst HA)
        go_roundw
        case rel => exact ⟨j + 1, by go_num, by omega, _, HN⟩
        case measure => simp [intOf]; omega
      · obtain rfl : m = j := by omega
        have HI0 := Lib.hid (mk_end slots draws HM.out)
        clear HM hlt hj
        go_upto_block 2 with fail
        go_wp2_with fail
        go_loopw [13, 79] (fun lf i W => ∃ j : Nat, i = .int .i64 j ∧ j ≤ slots.length ∧ lf = .int .i64 (pos (lefts m limit slots draws j) : Nat) ∧ Hid (RInv w3 g m limit slots draws j 0 (.slice none 0 0) W)) (fun _ i _ => slots.length - (intOf i).toNat)
        case atStart => exact ⟨0, rfl, Nat.zero_le _, rfl, HI0⟩
        case round =>
          clear HI0
          obtain ⟨j, rfl, hj, rfl, HI⟩ := hrel
          by_cases hlt : j < slots.length
          · obtain ⟨lo, hi, A1, A2, c1, c2, _, _, h3, hbox, hr1, hr2, ho, hB⟩ := HI.out
            obtain ⟨ad, had, hcx⟩ := Kd.at_int (Kd.C_below HS3.out hB) (j : Int) (by omega) (by omega)
            rw [Int.toNat_natCast, show rd slots (j : Int) = slots.getD j 0 from rd_getD slots j] at hcx
            subst had
            have hsj : slots.getD j 0 = (j : Int) := by rw [HIO.out]; exact iota_getD hlt
            obtain ⟨ag, hag, hcg⟩ := Kd.at_int (Kd.C_below HG3.out hB) (j : Int) (by omega) (by omega)
            rw [Int.toNat_natCast, show rd (lefts m limit slots draws slots.length) (j : Int) = (lefts m limit slots draws slots.length).getD j 0 from rd_getD _ j, lefts_getD m limit slots draws hlt, hsj] at hcg
            subst hag
            have hgy := lefts_getD m limit slots draws hlt
            rw [hsj] at hgy
            have HGD := Lib.hid (good_st hm h1 h2 HP.out draws j)
            have HI5 := HI
            have hst1 : (st m limit slots draws (j + 1)).1 = mixed (st m limit slots draws j).1 (slots.getD j 0) (draws.getD j 0) := rfl
            have hst2 : (st m limit slots draws (j + 1)).2 = fifoTo (st m limit slots draws j).2 limit (mixOut (st m limit slots draws j).1 (slots.getD j 0) (draws.getD j 0)) := rfl
            have hlf := lefts_succ m limit slots draws j
            have hoa := out_at hm h1 h2 slots.length draws hlt
            rw [← HIO.out] at hoa
            have hyl : fifoOut (st m limit slots draws j).2 limit (mixOut (st m limit slots draws j).1 (j : Int) (draws.getD j 0)) < slots.length := by
              by_cases h : 0 ≤ fifoOut (st m limit slots draws j).2 limit (mixOut (st m limit slots draws j).1 (j : Int) (draws.getD j 0))
              · have := hoa h; omega
              · omega
            have hcdd : ∀ bd, Ad = some bd → j < draws.length → wr.cell? (bd.add j) = some (.int .i64 (draws.getD j 0)) := fun bd hbd hd => by
              obtain ⟨bd', hbd', hcd⟩ := Kd.at_int (Kd.C_below HD3.out hB) (j : Int) (by omega) (by omega)
              obtain rfl := Option.some.inj (hbd.symm.trans hbd')
              rw [Int.toNat_natCast, show rd draws (j : Int) = draws.getD j 0 from rd_getD draws j] at hcd
              exact hcd
            have hadd : j < draws.length → ∃ bd, Ad = some bd := fun hd => by
              obtain ⟨bd', hbd', _⟩ := Kd.at_int (Kd.C_below HD3.out hB) (j : Int) (by omega) (by omega)
              exact ⟨bd', hbd'⟩
            have hd0 : ¬ j < draws.length → draws.getD j 0 = 0 := fun h => by rw [List.getD_eq_getElem?_getD, List.getElem?_eq_none (by omega)]; rfl
            have hps : pos (lefts m limit slots draws (j + 1)) = pos (lefts m limit slots draws j) + (if 0 ≤ fifoOut (st m limit slots draws j).2 limit (mixOut (st m limit slots draws j).1 (slots.getD j 0) (draws.getD j 0)) then 1 else 0) := by rw [hlf, pos_append, pos_one]
            have HC1 := Lib.hid (Kd.R_reads' hr1)
            have HC2 := Lib.hid (Kd.R_reads' hr2)
            have ⟨k0, k1, k2⟩ := WpL.cells3 hbox
            have hpl : pos (lefts m limit slots draws j) ≤ j := Nat.le_trans (pos_le _) (by rw [lefts_len]; exact Nat.le_refl _)
            obtain ⟨pj, hpj⟩ : ∃ x, pos (lefts m limit slots draws j) = x := ⟨_, rfl⟩
            obtain ⟨mx, hmx⟩ : ∃ x, (st m limit slots draws j).1 = x := ⟨_, rfl⟩
            obtain ⟨ff, hff⟩ : ∃ x, (st m limit slots draws j).2 = x := ⟨_, rfl⟩
            obtain ⟨d, hd⟩ : ∃ x, draws.getD j 0 = x := ⟨_, rfl⟩
            rw [hmx, hsj, hd] at hst1
            rw [hmx, hff, hsj, hd] at hst2 hps
            rw [hmx, hff, hd] at hoa hyl hcg hgy
            rw [hsj] at hcx
            rw [hmx] at HC1 k0
            rw [hff] at HC2 k1
            rw [hmx, hff] at HGD
            rw [hd] at hd0 hcdd
            rw [hpj] at hps hpl ⊢
            obtain ⟨y, hy⟩ : ∃ y, fifoOut ff limit (mixOut mx (j : Int) d) = y := ⟨_, rfl⟩
            rw [hy] at hps hoa hyl hcg hgy
            have HY := Lib.hid hy
            have HPS := Lib.hid hps
            have HGY := Lib.hid hgy
            have HS1 := Lib.hid hst1
            have HS2 := Lib.hid hst2
            have HBX := Lib.hid hbox
            have HYB := Lib.hid (And.intro hoa hyl)
            have HB := Lib.hid hB
            clear h3 hr1 hr2 ho hbox hst1 hst2 hlf HI hmx hff hsj hd hB hps hoa hyl hpj hy hgy
            by_cases hdl2 : j < draws.length
            · obtain ⟨bd, rfl⟩ := hadd hdl2
              have hcd2 := hcdd bd rfl hdl2
              clear hcdd hadd hd0
              go_wp2_with fail
              refine (WpJ.push_good wr HC1.out.2.2 HC1.out.2.1 HC2.out.2.2 HC2.out.2.1 HGD.out (by omega)).mono ?_
              rintro e w5 ⟨v1, v2, rfl, hR1, hR2, hB5⟩
              rw [← HS1.out] at hR1
              rw [← HS2.out] at hR2
              rw [HY.out]
              obtain ⟨C1, e1, rfl⟩ := Kd.R_slice hR1
              obtain ⟨C2, e2, rfl⟩ := Kd.R_slice hR2
              have HI6 := Lib.hid (HI5.out.push hR1 hR2 hB5)
              have hb5 := (hB5.block _ (blk_lt HBX.out)).trans HBX.out
              have f0 := blk_frozen hb5 0
              have f1 := blk_frozen hb5 1
              have f2 := blk_frozen hb5 2
              have ⟨k3, k4, k5⟩ := WpL.cells3 hb5
              clear hR1 hR2 hb5 HI5 k0 k1 k2 HC1 HC2 HS1 HS2 HBX hcx hcg HB
              go_upto_region 24 with fail
              obtain ⟨w6, hw6⟩ : ∃ y, (((w5.setCell ⟨g, 0, none⟩ (.slice C1 (st m limit slots draws (j + 1)).1.length e1)).setCell ⟨g, 1, none⟩ (.slice C2 (st m limit slots draws (j + 1)).2.length e2)).setCell ⟨g, 2, none⟩ (.int .i64 limit)) = y := ⟨_, rfl⟩
              rw [hw6] at HI6 ⊢
              clear hw6 k3 k4 k5 f0 f1 f2
              obtain ⟨ag', hag, hcg⟩ := Kd.at_int (Kd.C_below HG3.out HI6.out.B) (j : Int) (by omega) (by omega)
              obtain rfl := Option.some.inj hag
              rw [Int.toNat_natCast, show rd (lefts m limit slots draws slots.length) (j : Int) = (lefts m limit slots draws slots.length).getD j 0 from rd_getD _ j, HGY.out] at hcg
              have hyb := HYB.out
              clear HYB
              by_cases hy0 : 0 ≤ y
              · have hy1 := hyb.1 hy0
                have hy2 := hyb.2
                have hps := HPS.out
                rw [if_pos hy0] at hps
                have HPS2 := Lib.hid hps
                have n1 : (y != y) = false := by simp
                have n2 : decide (0 ≤ y) = true := by simpa using hy0
                have n3 : decide ((slots.length : Int) ≤ y) = false := by simp; omega
                clear hyb hps HPS
                go_wp2_with fail
                go_roundw
                case rel => exact ⟨j + 1, by go_num, by omega, by rw [HPS2.out]; go_num, HI6⟩
                case measure => simp [intOf]; omega
              · have hps := HPS.out
                rw [if_neg hy0, Nat.add_zero] at hps
                have HPS2 := Lib.hid hps
                have n1 : (y != y) = false := by simp
                have n2 : decide (0 ≤ y) = false := by simpa using hy0
                clear hyb hps HPS
                go_wp2_with fail
                go_roundw
                case rel => exact ⟨j + 1, by go_num, by omega, by rw [HPS2.out]; go_num, HI6⟩
                case measure => simp [intOf]; omega
            · obtain rfl := hd0 hdl2
              clear hcdd hadd hd0
              go_wp2_with fail
              refine (WpJ.push_good wr HC1.out.2.2 HC1.out.2.1 HC2.out.2.2 HC2.out.2.1 HGD.out (by omega)).mono ?_
              rintro e w5 ⟨v1, v2, rfl, hR1, hR2, hB5⟩
              rw [← HS1.out] at hR1
              rw [← HS2.out] at hR2
              rw [HY.out]
              obtain ⟨C1, e1, rfl⟩ := Kd.R_slice hR1
              obtain ⟨C2, e2, rfl⟩ := Kd.R_slice hR2
              have HI6 := Lib.hid (HI5.out.push hR1 hR2 hB5)
              have hb5 := (hB5.block _ (blk_lt HBX.out)).trans HBX.out
              have f0 := blk_frozen hb5 0
              have f1 := blk_frozen hb5 1
              have f2 := blk_frozen hb5 2
              have ⟨k3, k4, k5⟩ := WpL.cells3 hb5
              clear hR1 hR2 hb5 HI5 k0 k1 k2 HC1 HC2 HS1 HS2 HBX hcx hcg HB
              go_upto_region 24 with fail
              obtain ⟨w6, hw6⟩ : ∃ y, (((w5.setCell ⟨g, 0, none⟩ (.slice C1 (st m limit slots draws (j + 1)).1.length e1)).setCell ⟨g, 1, none⟩ (.slice C2 (st m limit slots draws (j + 1)).2.length e2)).setCell ⟨g, 2, none⟩ (.int .i64 limit)) = y := ⟨_, rfl⟩
              rw [hw6] at HI6 ⊢
              clear hw6 k3 k4 k5 f0 f1 f2
              obtain ⟨ag', hag, hcg⟩ := Kd.at_int (Kd.C_below HG3.out HI6.out.B) (j : Int) (by omega) (by omega)
              obtain rfl := Option.some.inj hag
              rw [Int.toNat_natCast, show rd (lefts m limit slots draws slots.length) (j : Int) = (lefts m limit slots draws slots.length).getD j 0 from rd_getD _ j, HGY.out] at hcg
              have hyb := HYB.out
              clear HYB
              by_cases hy0 : 0 ≤ y
              · have hy1 := hyb.1 hy0
                have hy2 := hyb.2
                have hps := HPS.out
                rw [if_pos hy0] at hps
                have HPS2 := Lib.hid hps
                have n1 : (y != y) = false := by simp
                have n2 : decide (0 ≤ y) = true := by simpa using hy0
                have n3 : decide ((slots.length : Int) ≤ y) = false := by simp; omega
                clear hyb hps HPS
                go_wp2_with fail
                go_roundw
                case rel => exact ⟨j + 1, by go_num, by omega, by rw [HPS2.out]; go_num, HI6⟩
                case measure => simp [intOf]; omega
              · have hps := HPS.out
                rw [if_neg hy0, Nat.add_zero] at hps
                have HPS2 := Lib.hid hps
                have n1 : (y != y) = false := by simp
                have n2 : decide (0 ≤ y) = false := by simpa using hy0
                clear hyb hps HPS
                go_wp2_with fail
                go_roundw
                case rel => exact ⟨j + 1, by go_num, by omega, by rw [HPS2.out]; go_num, HI6⟩
                case measure => simp [intOf]; omega
          · obtain rfl : j = slots.length := by omega
            obtain ⟨lo, hi, A1, A2, c1, c2, _, _, h3, hbox, hr1, hr2, ho, hB⟩ := HI.out
            have hst := (run_st hm h1 h2 slots.length draws slots.length (Nat.le_refl _)).2
            rw [← HIO.out] at hst
            have hfl := (good_st hm h1 h2 HP.out draws slots.length).fifoLen
            have hml := mix_len m limit slots draws slots.length
            have HC1 := Lib.hid (Kd.R_reads' hr1)
            have ⟨k0, k1, k2⟩ := WpL.cells3 hbox
            obtain ⟨pj, hpj⟩ : ∃ x, pos (lefts m limit slots draws slots.length) = x := ⟨_, rfl⟩
            obtain ⟨mx, hmx⟩ : ∃ x, (st m limit slots draws slots.length).1 = x := ⟨_, rfl⟩
            obtain ⟨ff, hff⟩ : ∃ x, (st m limit slots draws slots.length).2 = x := ⟨_, rfl⟩
            rw [hpj, hmx, hff] at hst
            rw [hmx] at HC1 k0 hml
            rw [hff] at k1 hfl
            rw [hpj]
            have hpm := pos_le mx
            subst hml
            have HBw := Lib.hid (HB3.out.trans (hB.mono HB3.out.size))
            clear HI hbox hr1 hr2 ho hB h3 hpj hmx hff k2 hj hlt HIO HP HGZ HG3 HS3 HD3 HB3
            go_upto_block 3 with fail
            go_wp2_with fail
            go_loopw [18, 133] (fun hd i W => ∃ j : Nat, i = .int .i64 j ∧ j ≤ mx.length ∧ hd = .int .i64 ((ff.length + pos (mx.take j) : Nat) : Int) ∧ W = wr) (fun _ i _ => mx.length - (intOf i).toNat)
            case atStart => exact ⟨0, rfl, Nat.zero_le _, by simp [pos], rfl⟩
            case round =>
              obtain ⟨j, rfl, hj, rfl, rfl⟩ := hrel
              by_cases hlt : j < mx.length
              · obtain ⟨ax, hax, hcx⟩ := Kd.at_int HC1.out.2.2 (j : Int) (by omega) (by omega)
                rw [Int.toNat_natCast, show rd mx (j : Int) = mx.getD j 0 from rd_getD mx j] at hcx
                subst hax
                have hpt := pos_take_succ mx hlt
                have hpl := pos_take_le mx j
                obtain ⟨x, hx⟩ : ∃ x, mx.getD j 0 = x := ⟨_, rfl⟩
                rw [hx] at hpt hcx
                have HPT := Lib.hid hpt
                clear hpt hx
                by_cases hx0 : 0 ≤ x
                · go_wp2_with fail
                  go_roundw
                  case rel => exact ⟨j + 1, by go_num, by omega, by rw [HPT.out, if_pos hx0]; go_num, trivial⟩
                  case measure => simp [intOf]; omega
                · go_wp2_with fail
                  go_roundw
                  case rel => exact ⟨j + 1, by go_num, by omega, by rw [HPT.out, if_neg hx0]; go_num, trivial⟩
                  case measure => simp [intOf]; omega
              · obtain rfl : j = mx.length := by omega
                rw [List.take_length]
                clear hj hlt
                obtain ⟨q, hq⟩ : ∃ q, ff.length + pos mx = q := ⟨_, rfl⟩
                rw [hq]
                have e1 : ((q : Int) + (pj : Int) == (slots.length : Int)) = true := by simp; omega
                have e2 : decide ((ff.length : Int) ≤ limit) = true := by simpa using hfl
                have e3 : ((mx.length : Int) == (mx.length : Int)) = true := by simp
                have e4 : q ≤ 100 := by omega
                have e5 : pj ≤ 3000 := by omega
                clear hq hst
                go_wp2_with fail
                go_ret
                exact ⟨rfl, HBw.out⟩
  · clear HAN
    go_wp2
    go_ret
    exact ⟨rfl, HB3.out⟩
end Go.Proofs.Ytklobepkihdbkaa.WsL
