/- The reference's WaitPush: the same lists. -/
import Derived.Test.YtklobepkihdbkaaWpJ
namespace Go.Proofs.Ytklobepkihdbkaa.WpS
open Go.RowKit Go.Proofs.Ytklobepkihdbkaa.PFnExactWaitPush Go.Proofs.YtklobepkihdbkaaW.PrintWords Go.Proofs.YtklobepkihdbkaaW.PrintLast Go.Proofs.YtklobepkihdbkaaW.PrintMore Wp WpG WpI WpJ
set_option linter.unusedVariables false
set_option linter.unusedSimpArgs false
theorem mod_is (d m : Int) (h0 : 1 ≤ m) (h1 : m ≤ 1048576) : spec_l5Mod.f d m = some (d % m) := by
  have hlo : -m < d.tmod m := Int.lt_tmod_of_pos d (by omega)
  have hhi : d.tmod m < m := Int.tmod_lt_of_pos d (by omega)
  have e := Int.tmod_add_mul_tdiv d m
  unfold spec_l5Mod.f
  rw [if_neg (by omega)]
  by_cases h : d.tmod m < 0
  · rw [if_pos h, w64 (by omega) (by omega)]
    have : d % m = d.tmod m + m := by
      have e2 : d = (d.tmod m + m) + m * (d.tdiv m - 1) := by rw [Int.mul_sub]; omega
      have e3 : d % m = ((d.tmod m + m) + m * (d.tdiv m - 1)) % m := by rw [← e2]
      rw [e3, Int.add_mul_emod_self_left, Int.emod_eq_of_lt (by omega) (by omega)]
    rw [this]
  · rw [if_neg h]
    have : d % m = d.tmod m := by
      have e2 : d = d.tmod m + m * d.tdiv m := by omega
      have e3 : d % m = (d.tmod m + m * d.tdiv m) % m := by rw [← e2]
      rw [e3, Int.add_mul_emod_self_left, Int.emod_eq_of_lt (by omega) (by omega)]
    rw [this]
theorem take_mixed {mix : List Int} {k : Nat} (hk : k < mix.length) (slot draw : Int) : (mixed mix slot draw).take (k + 1) = (mixed mix slot draw).take k ++ [if k = mixAt mix draw then slot else mix.getD k 0] := by
  have hl : k < (mixed mix slot draw).length := by unfold mixed; simpa using hk
  rw [List.take_succ_eq_append_getElem hl]
  congr 2
  simp only [mixed, List.getElem_set]
  by_cases e : mixAt mix draw = k
  · rw [if_pos e, if_pos e.symm]
  · rw [if_neg e, if_neg (fun h => e h.symm)]
    simp [hk]
def Inv (w w1 wr : World) (arg res : Option Obj) (limit : Int) (k : Nat) (xs : List Int) : Prop :=
  (wr.heap[w.heap.size]? = arg ∧ wr.heap[w.heap.size + 1]? = res) ∧ (∃ A c, wr.heap[w1.heap.size]? = some (.cells #[.slice A k c, .slice none 0 0, .int .i64 limit] 26 (0, 0)) ∧ (Kd.int .i64).R 3 wr w.heap.size (fun j => w1.heap.size < j) (.slice A k c) xs) ∧ Below w.heap.size w wr
def put4 (w5 : World) (ob rb : Nat) (vm vf : Value) (limit : Int) : World := (((w5.setCell ⟨ob, 1, none⟩ vf).setCell ⟨rb, 0, none⟩ vm).setCell ⟨rb, 1, none⟩ vf).setCell ⟨rb, 2, none⟩ (.int .i64 limit)
theorem put4_R {w5 : World} {ob rb base : Nat} {vm vf v : Value} {limit : Int} {ok : Nat → Prop} {xs : List Int} (h : (Kd.int .i64).R 3 w5 base ok v xs) (h1 : ∀ k, ok k → k ≠ ob) (h2 : ∀ k, ok k → k ≠ rb) : (Kd.int .i64).R 3 (put4 w5 ob rb vm vf limit) base ok v xs :=
  Kd.R_far (p := ⟨rb, 2, none⟩) (Kd.R_far (p := ⟨rb, 1, none⟩) (Kd.R_far (p := ⟨rb, 0, none⟩) (Kd.R_far (p := ⟨ob, 1, none⟩) h h1 _) h2 _) h2 _) h2 _
theorem put4_B {w w5 : World} {ob rb base : Nat} {vm vf : Value} {limit : Int} (h : Below base w w5) (h1 : base ≤ ob) (h2 : base ≤ rb) : Below base w (put4 w5 ob rb vm vf limit) :=
  (((h.setCell (p := ⟨ob, 1, none⟩) h1 _).setCell (p := ⟨rb, 0, none⟩) h2 _).setCell (p := ⟨rb, 1, none⟩) h2 _).setCell (p := ⟨rb, 2, none⟩) h2 _
theorem put4_rb {w5 : World} {ob rb : Nat} {vm vf x y z : Value} {limit : Int} (hr : w5.heap[rb]? = some (.cells #[x, y, z] 26 (0, 0))) (hne : rb ≠ ob) : (put4 w5 ob rb vm vf limit).heap[rb]? = some (.cells #[vm, vf, .int .i64 limit] 26 (0, 0)) := by
  have h0 := blk_far hr (p := ⟨ob, 1, none⟩) hne vf
  exact blk_set (blk_set (blk_set h0 0 vm) 1 vf) 2 (.int .i64 limit)
theorem two_fin {w w5 : World} {ob n1 : Nat} {vm vf : Value} {limit out : Int} {zs ys : List Int} (h1 : w.heap.size + 1 < ob) (h2 : ob < n1) (hvm : (Kd.int .i64).R 3 w5 w.heap.size (fun j => ob < j ∧ j < n1) vm zs) (hvf : (Kd.int .i64).R 3 w5 w.heap.size (fun j => n1 ≤ j) vf ys) (hB : Below w.heap.size w w5) :
    Two w zs ys limit out (.returned (.tuple #[.agg #[vm, vf, .int .i64 limit], .int .i64 out])) (put4 w5 ob (w.heap.size + 1) vm vf limit) := by
  have a := put4_R (ob := ob) (rb := w.heap.size + 1) (vm := vm) (vf := vf) (limit := limit) hvm (fun k hk => by omega) (fun k hk => by omega)
  have b := put4_R (ob := ob) (rb := w.heap.size + 1) (vm := vm) (vf := vf) (limit := limit) hvf (fun k hk => by omega) (fun k hk => by omega)
  refine ⟨vm, vf, rfl, Kd.R_mono a (fun k hk he => ?_), Kd.R_mono b (fun k hk he => ?_), put4_B hB (by omega) (by omega)⟩
  · have := hvf.1 k he.symm
    omega
  · have := hvm.1 k he.symm
    omega
theorem two_drew {w w' : World} {zs ys : List Int} {limit out : Int} {e : Ending} (h : Two w zs ys limit out e w') : Two w zs ys limit out e w'.drew := by
  obtain ⟨vm, vf, he, h1, h2, h3⟩ := h
  exact ⟨vm, vf, he, Kd.R_drew h1, Kd.R_drew h2, below_drew h3⟩
theorem ret_val {a b : Int} (h : a = b) : (Value.int .i64 b) = .int .i64 a := by rw [h]
theorem inv_set {w w1 w4 : World} {ca cr : Array Value} {ta tr : TypeId} {limit : Int} {k n c0 c : Nat} {A0 A : Option Addr} {xs : List Int} (ha : w4.heap[w.heap.size]? = some (.cells ca ta (0, 0))) (hr : w4.heap[w.heap.size + 1]? = some (.cells cr tr (0, 0)))
    (ho : w4.heap[w1.heap.size]? = some (.cells #[.slice A0 k c0, .slice none 0 0, .int .i64 limit] 26 (0, 0))) (hR : (Kd.int .i64).R 3 w4 w.heap.size (fun j => w1.heap.size < j) (.slice A n c) xs) (hB : Below w.heap.size w w4) (hz : w.heap.size + 2 ≤ w1.heap.size) :
    Inv w w1 (w4.setCell ⟨w1.heap.size, 0, none⟩ (.slice A n c)) (some (.cells ca ta (0, 0))) (some (.cells cr tr (0, 0))) limit n xs :=
  ⟨⟨blk_far ha (p := ⟨w1.heap.size, 0, none⟩) (by simp; omega) _, blk_far hr (p := ⟨w1.heap.size, 0, none⟩) (by simp; omega) _⟩, ⟨A, c, blk_set ho 0 _, Kd.R_far hR (fun j hj => by simp; omega) _⟩, hB.setCell (p := ⟨w1.heap.size, 0, none⟩) (by simp; omega) _⟩
set_option maxRecDepth 100000 in
set_option maxHeartbeats 4000000 in
theorem push_good {Am Af : Option Addr} {cm cf : Nat} {mix fifo : List Int} {limit slot draw : Int} (w : World) (hm : (Kd.int .i64).C w Am mix.length mix) (hcm : mix.length ≤ cm) (hf : (Kd.int .i64).C w Af fifo.length fifo) (hcf : fifo.length ≤ cf) (hg : GoodW mix fifo limit) (hs : 0 ≤ slot) :
    Calls Try.prog 9 #[.agg #[.slice Am mix.length cm, .slice Af fifo.length cf, .int .i64 limit], .int .i64 slot, .int .i64 draw] w (Two w (mixed mix slot draw) (fifoTo fifo limit (mixOut mix slot draw)) limit (fifoOut fifo limit (mixOut mix slot draw))) := by
  have hml := hg.mixLen
  have hl1 := hg.limLo
  have hl2 := hg.limHi
  have hfl := hg.fifoLen
  obtain ⟨b, hb, hbi⟩ := spec_l5Good_is mix fifo limit (by omega) (by omega) _ (Nat.le_refl _)
  obtain rfl : b = true := hbi.2 hg
  have HG := Lib.hid hb
  have HGW := Lib.hid hg
  have HM := Lib.hid hm
  have HF := Lib.hid hf
  clear hb hbi hg hm hf
  go_enter Try.func9, Try.ntmps9
  go_upto_region 3 with (go_at_call 35; refine (spec_l5Good.calls _ Am cm mix Af cf fifo limit true _ (Kd.C_alloc (Kd.C_alloc HM.out _) _) hcm (Kd.C_alloc (Kd.C_alloc HF.out _) _) hcf HG.out).mono ?_; rintro e w1 ⟨rfl, hw1⟩)
  have ha : w1.heap[w.heap.size]? = some (.cells #[.slice Am mix.length cm, .slice Af fifo.length cf, .int .i64 limit] 26 (0, 0)) := (hw1.block _ (by simp; omega)).trans (alloc_old (heap_alloc_new w _) _)
  have hr : w1.heap[w.heap.size + 1]? = some (.cells #[.slice none 0 0, .slice none 0 0, .int .i64 0] 26 (0, 0)) := (hw1.block _ (by simp)).trans (alloc_at (w.alloc _) _ (by simp))
  have hB1 : Below w.heap.size w w1 := (balloc (balloc (Below.refl _ _) _) _).trans (hw1.mono (by simp; omega))
  have hz1 : w.heap.size + 2 ≤ w1.heap.size := by have := hw1.size; simp at this; omega
  have hac0 : w1.cell? ⟨w.heap.size, 0, none⟩ = some (.slice Am mix.length cm) := blk_cell ha 0
  have hac2 : w1.cell? ⟨w.heap.size, 2, none⟩ = some (.int .i64 limit) := blk_cell ha 2
  have hac0' : ∀ o, (w1.alloc o).cell? ⟨w.heap.size, 0, none⟩ = some (.slice Am mix.length cm) := fun o => blk_cell (alloc_old ha o) 0
  have HA := Lib.hid ha
  have HR := Lib.hid hr
  have HB1 := Lib.hid hB1
  clear hw1 ha hr hB1
  go_upto_block 0 with fail
  obtain ⟨w2, hw2⟩ : ∃ w2, w1.alloc (.cells #[.slice none 0 0, .slice none 0 0, .int .i64 limit] 26) = w2 := ⟨_, rfl⟩
  have hinv : Inv w w1 w2 (some (.cells #[.slice Am mix.length cm, .slice Af fifo.length cf, .int .i64 limit] 26 (0, 0))) (some (.cells #[.slice none 0 0, .slice none 0 0, .int .i64 0] 26 (0, 0))) limit 0 [] := by
    rw [← hw2]
    exact ⟨⟨alloc_old HA.out _, alloc_old HR.out _⟩, ⟨none, 0, heap_alloc_new w1 _, Kd.R_nil _ _ _ _ _⟩, balloc HB1.out _⟩
  rw [hw2]
  have HI0 := Lib.hid hinv
  clear hw2 hinv hac0 hac2 hac0' HA HR HB1
  go_cut [9] (fun s9 wx => s9 = .int .i64 (mixOut mix slot draw) ∧ Hid (Inv w w1 wx (some (.cells #[.slice Am mix.length cm, .slice Af fifo.length cf, .int .i64 limit] 26 (0, 0))) (some (.cells #[.slice none 0 0, .slice none 0 0, .int .i64 0] 26 (0, 0))) limit mix.length (mixed mix slot draw)))
  case first =>
    go_wp2_with fail
    go_loopw [9, 28] (fun s i wr => ∃ k : Nat, i = .int .i64 k ∧ k ≤ mix.length ∧ s = .int .i64 (if mixAt mix draw < k then mixOut mix slot draw else slot) ∧ Hid (Inv w w1 wr (some (.cells #[.slice Am mix.length cm, .slice Af fifo.length cf, .int .i64 limit] 26 (0, 0))) (some (.cells #[.slice none 0 0, .slice none 0 0, .int .i64 0] 26 (0, 0))) limit k ((mixed mix slot draw).take k))) (fun _ i _ => mix.length - (intOf i).toNat)
    case atStart => exact ⟨0, rfl, Nat.zero_le _, by rw [if_neg (by omega)], HI0⟩
    case round =>
      clear HI0
      obtain ⟨k, rfl, hk, rfl, HI⟩ := hrel
      obtain ⟨⟨ha, hr⟩, ⟨A, c, ho, hR⟩, hB⟩ := HI.out
      by_cases hlt : k < mix.length
      · have hne : mix ≠ [] := fun h => by rw [h] at hlt; simp at hlt
        have hq := mixAt_lt hne draw
        have hd : draw % (mix.length : Int) = ((mixAt mix draw : Nat) : Int) := by
          unfold mixAt
          have := Int.emod_nonneg draw (b := (mix.length : Int)) (by omega)
          omega
        have hmod := mod_is draw (mix.length : Int) (by omega) (by omega)
        rw [hd] at hmod
        have hmo : mixOut mix slot draw = mix.getD (mixAt mix draw) 0 := by unfold mixOut; rw [if_neg hne]
        have htk := take_mixed hlt slot draw
        obtain ⟨q, hqe⟩ : ∃ q, mixAt mix draw = q := ⟨_, rfl⟩
        rw [hqe] at hq hmod htk hmo
        obtain ⟨ad, had, hcx⟩ := Kd.at_int (Kd.C_below HM.out hB) (k : Int) (by omega) (by omega)
        rw [Int.toNat_natCast, show rd mix (k : Int) = mix.getD k 0 from rd_getD mix k] at hcx
        subst had
        obtain ⟨x, hx⟩ : ∃ x, mix.getD k 0 = x := ⟨_, rfl⟩
        rw [hx] at hcx htk
        have k0 : wr.cell? ⟨w.heap.size, 0, none⟩ = some (.slice (some ad) mix.length cm) := blk_cell ha 0
        obtain ⟨on, hon⟩ : ∃ on, (if q < k then mixOut mix slot draw else slot) = on := ⟨_, rfl⟩
        rw [hqe, hon]
        have hL : ((mixed mix slot draw).take k).length = k := by rw [List.length_take]; unfold mixed; simp; omega
        have hL1 : ((mixed mix slot draw).take (k + 1)).length = k + 1 := by rw [List.length_take]; unfold mixed; simp; omega
        have HA := Lib.hid ha
        have HRR := Lib.hid hr
        have HO := Lib.hid ho
        have HR := Lib.hid hR
        have HB := Lib.hid hB
        have HMOD := Lib.hid hmod
        have HL := Lib.hid hL
        have HL1 := Lib.hid hL1
        by_cases hkq : k = q
        · rw [if_pos hkq] at htk
          have hon1 : (if q < k + 1 then mixOut mix slot draw else slot) = x := by rw [if_pos (by omega), hmo, ← hkq, hx]
          have e1 : ((k : Int) == (q : Int)) = true := by rw [beq_iff_eq]; omega
          have HTK := Lib.hid htk.symm
          have HON1 := Lib.hid hon1
          clear ha hr ho hR hB hmod hL hL1 htk hon hon1 hmo hx hqe hkq hd hne HI
          go_wp2_with (first | (go_at_call 36; refine (spec_l5Mod.calls draw (mix.length : Int) (q : Int) _ HMOD.out).mono ?_; rintro e w3 ⟨rfl, hd3⟩; obtain ⟨nn, rfl⟩ := hd3.out; clear hd3; have o0 : (wr.drewN nn).cell? ⟨w1.heap.size, 0, none⟩ = some (.slice A k c) := blk_cell HO.out 0) | ((with_reducible refine gate_dst (N := 46) rfl ?_); at_builtin; refine Kd.R_append (Kd.int .i64) (w0 := w) w.heap.size rfl (.tmp 43) (.tmp 45) 22 3 (.int .i64 0) 8 rfl Try.underlying22 (by kernel_rfl) rfl (by decide) (by omega) (.slice A k c) ((mixed mix slot draw).take k) slot [.int .i64 slot] (fun j => w1.heap.size < j) (fun _ => False) rfl rfl ?aP (fun _ hk => hk.elim) ?aF ?aO ?aB ?aS ?aL ?_; (case aP => exact rfl); (case aF => intro j hj; have := blk_lt HO.out; simp at hj; omega); (case aO => exact Kd.R_drewN HR.out _); (case aB => exact pw_below_drewN HB.out _); (case aS => exact HB.out.size); (case aL => have := HL.out; omega); intro v1 w4 hR4 hB4 hg4 hat4; rw [HTK.out] at hR4; obtain ⟨A4, c4, rfl⟩ : ∃ A c, v1 = .slice A (k + 1) c := (by obtain ⟨A, c, e⟩ := Kd.R_slice hR4; exact ⟨A, c, by rw [e, HL1.out]⟩); have ho4 := blk_grown (w := wr.drewN nn) HO.out hg4 (by intro he; have := HR.out.1 _ he.symm; omega); have ha4 := blk_grown (w := wr.drewN nn) HA.out hg4 (by intro he; have := HR.out.1 _ he.symm; omega); have hr4 := blk_grown (w := wr.drewN nn) HRR.out hg4 (by intro he; have := HR.out.1 _ he.symm; omega); have f0 := blk_frozen ho4 0; have o0 : w4.cell? ⟨w1.heap.size, 0, none⟩ = some (.slice A k c) := blk_cell ho4 0; have HN := Lib.hid (inv_set ha4 hr4 ho4 hR4 hB4 (by omega)); clear hat4 hg4 hR4 hB4 ho4 ha4 hr4))
          go_roundw
          case rel => exact ⟨k + 1, by go_num, by omega, ret_val (by rw [HON1.out]), HN⟩
          case measure => simp [intOf]; omega

        · rw [if_neg hkq] at htk
          have hon1 : (if q < k + 1 then mixOut mix slot draw else slot) = on := by
            rw [← hon]
            by_cases h : q < k
            · rw [if_pos h, if_pos (by omega)]
            · rw [if_neg h, if_neg (by omega)]
          have e1 : ((k : Int) == (q : Int)) = false := by rw [beq_eq_false_iff_ne]; omega
          have HTK := Lib.hid htk.symm
          have HON1 := Lib.hid hon1
          clear ha hr ho hR hB hmod hL hL1 htk hon hon1 hmo hx hqe hd hne HI
          go_wp2_with (first | (go_at_call 36; refine (spec_l5Mod.calls draw (mix.length : Int) (q : Int) _ HMOD.out).mono ?_; rintro e w3 ⟨rfl, hd3⟩; obtain ⟨nn, rfl⟩ := hd3.out; clear hd3; have o0 : (wr.drewN nn).cell? ⟨w1.heap.size, 0, none⟩ = some (.slice A k c) := blk_cell HO.out 0) | ((with_reducible refine gate_dst (N := 46) rfl ?_); at_builtin; refine Kd.R_append (Kd.int .i64) (w0 := w) w.heap.size rfl (.tmp 43) (.tmp 45) 22 3 (.int .i64 0) 8 rfl Try.underlying22 (by kernel_rfl) rfl (by decide) (by omega) (.slice A k c) ((mixed mix slot draw).take k) x [.int .i64 x] (fun j => w1.heap.size < j) (fun _ => False) rfl rfl ?aP (fun _ hk => hk.elim) ?aF ?aO ?aB ?aS ?aL ?_; (case aP => exact rfl); (case aF => intro j hj; have := blk_lt HO.out; simp at hj; omega); (case aO => exact Kd.R_drewN HR.out _); (case aB => exact pw_below_drewN HB.out _); (case aS => exact HB.out.size); (case aL => have := HL.out; omega); intro v1 w4 hR4 hB4 hg4 hat4; rw [HTK.out] at hR4; obtain ⟨A4, c4, rfl⟩ : ∃ A c, v1 = .slice A (k + 1) c := (by obtain ⟨A, c, e⟩ := Kd.R_slice hR4; exact ⟨A, c, by rw [e, HL1.out]⟩); have ho4 := blk_grown (w := wr.drewN nn) HO.out hg4 (by intro he; have := HR.out.1 _ he.symm; omega); have ha4 := blk_grown (w := wr.drewN nn) HA.out hg4 (by intro he; have := HR.out.1 _ he.symm; omega); have hr4 := blk_grown (w := wr.drewN nn) HRR.out hg4 (by intro he; have := HR.out.1 _ he.symm; omega); have f0 := blk_frozen ho4 0; have o0 : w4.cell? ⟨w1.heap.size, 0, none⟩ = some (.slice A k c) := blk_cell ho4 0; have HN := Lib.hid (inv_set ha4 hr4 ho4 hR4 hB4 (by omega)); clear hat4 hg4 hR4 hB4 ho4 ha4 hr4))
          go_roundw
          case rel => exact ⟨k + 1, by go_num, by omega, ret_val (by rw [HON1.out]), HN⟩
          case measure => simp [intOf]; omega

      · obtain rfl : k = mix.length := by omega
        have hon : (if mixAt mix draw < mix.length then mixOut mix slot draw else slot) = mixOut mix slot draw := by
          by_cases h : mix = []
          · subst h
            rfl
          · rw [if_pos (mixAt_lt h draw)]
        have htk : (mixed mix slot draw).take mix.length = mixed mix slot draw := List.take_of_length_le (by unfold mixed; simp)
        rw [htk] at HI
        rw [hon]
        clear ha hr ho hR hB hon htk
        go_wp2_with fail
        go_meet
        exact ⟨rfl, HI⟩
  case rest =>
    obtain ⟨rfl, HI⟩ := hcut
    obtain ⟨⟨ha, hr⟩, ⟨A, c, ho, hR⟩, hB⟩ := HI.out
    obtain ⟨zs, hzs⟩ : ∃ zs, mixed mix slot draw = zs := ⟨_, rfl⟩
    have hlo := out_lo HGW.out hs draw
    obtain ⟨on, hon⟩ : ∃ on, mixOut mix slot draw = on := ⟨_, rfl⟩
    rw [hon] at hlo
    rw [hzs] at hR
    rw [hon]
    have hob := blk_lt ho
    have hvm : (Kd.int .i64).R 3 wc w.heap.size (fun j => w1.heap.size < j ∧ j < wc.heap.size) (.slice A mix.length c) zs := Kd.R_mono (Kd.R_bound hR) (fun k hk => ⟨hk.1, hk.2.2.1⟩)
    have k1 : wc.cell? ⟨w.heap.size, 1, none⟩ = some (.slice Af fifo.length cf) := blk_cell ha 1
    have HON := Lib.hid hon
    have HZS := Lib.hid hzs
    have HA := Lib.hid ha
    have HR := Lib.hid hr
    have HO := Lib.hid ho
    have HVM := Lib.hid hvm
    have HB := Lib.hid hB
    clear hon hzs ha hr ho hR hvm hB HI HI0
    go_upto_region 14 with ((with_reducible refine gate_dst (N := 51) rfl ?_); at_builtin; refine Kd.R_append_rows (Kd.int .i64) (w0 := w) w.heap.size rfl _ (.tmp 50) 22 3 (.int .i64 0) 8 rfl Try.underlying22 (by kernel_rfl) rfl (by decide) (by omega) (.slice none 0 0) [] fifo Af fifo.length cf (fun k => wc.heap.size ≤ k) (fun _ => False) rfl rfl (Kd.R_nil _ _ _ _ _) (Kd.C_below HF.out HB.out) (fun _ _ h => h) (fun _ h => h.elim) (fun k hk => hk) HB.out HB.out.size (by simp; omega) ?_; intro v1 w5 hR5 hB5 hg5 hat5; rw [List.nil_append] at hR5; obtain ⟨A5, c5, rfl, hc5, _⟩ := Kd.R_reads hR5; have hk5 : Kept wc w5 (fun k => wc.heap.size ≤ k) := Kept.of_grown hg5 (Kept.refl _ _) (fun k hk => .inr (by simp [Value.ownBlock] at hk)); have HR5 := Lib.hid hR5; have HB5 := Lib.hid hB5; have HK5 := Lib.hid hk5; clear hat5 hg5 hR5 hB5 hk5)
    have hsz5 := HK5.out.1
    have o5 := blk_kept HO.out HK5.out (by omega)
    have r5 := blk_kept HR.out HK5.out (by omega)
    have a5 := blk_kept HA.out HK5.out (by omega)
    have vm5 := Kd.R_kept HVM.out HK5.out (fun k h1 h2 => by omega)
    by_cases h0 : on < 0
    · have hb0 : decide (0 ≤ on) = false := decide_eq_false (by omega)
      have hb1 : decide ((fifo.length : Int) ≤ limit) = true := decide_eq_true hfl
      have o0 : w5.cell? ⟨w1.heap.size, 0, none⟩ = some (.slice A mix.length c) := blk_cell o5 0
      have o1 : w5.cell? ⟨w1.heap.size, 1, none⟩ = some (.slice none 0 0) := blk_cell o5 1
      have o2 : w5.cell? ⟨w1.heap.size, 2, none⟩ = some (.int .i64 limit) := blk_cell o5 2
      have f1 := blk_frozen o5 1
      have r0 : w5.cell? ⟨w.heap.size + 1, 0, none⟩ = some (.slice none 0 0) := blk_cell r5 0
      have r1 : w5.cell? ⟨w.heap.size + 1, 1, none⟩ = some (.slice none 0 0) := blk_cell r5 1
      have r2 : w5.cell? ⟨w.heap.size + 1, 2, none⟩ = some (.int .i64 0) := blk_cell r5 2
      have g0 := blk_frozen r5 0
      have g1 := blk_frozen r5 1
      have g2 := blk_frozen r5 2
      have a2 : w5.cell? ⟨w.heap.size, 2, none⟩ = some (.int .i64 limit) := blk_cell a5 2
      have q1 : ¬ w1.heap.size = w.heap.size + 1 := by omega
      have q2 : ¬ w.heap.size + 1 = w1.heap.size := by omega
      have q3 : ¬ w1.heap.size = w.heap.size := by omega
      have q4 : ¬ w.heap.size = w1.heap.size := by omega
      have HT := Lib.hid (two_fin (limit := limit) (out := -1) (by omega) (by omega) vm5 HR5.out HB5.out)
      have HRZ := Lib.hid (put4_rb (ob := w1.heap.size) (vm := .slice A mix.length c) (vf := .slice A5 fifo.length c5) (limit := limit) r5 (by omega))
      have he1 : fifoTo fifo limit on = fifo := by unfold fifoTo; rw [if_pos h0]
      have he2 : fifoOut fifo limit on = -1 := by unfold fifoOut; rw [if_pos h0]
      have HE1 := Lib.hid he1
      have HE2 := Lib.hid he2
      clear he1 he2 o5 r5 a5 vm5
      go_wp2_with fail
      have z0 : (put4 w5 w1.heap.size (w.heap.size + 1) (.slice A mix.length c) (.slice A5 fifo.length c5) limit).cell? ⟨w.heap.size + 1, 0, none⟩ = _ := blk_cell HRZ.out 0
      have z1 : (put4 w5 w1.heap.size (w.heap.size + 1) (.slice A mix.length c) (.slice A5 fifo.length c5) limit).cell? ⟨w.heap.size + 1, 1, none⟩ = _ := blk_cell HRZ.out 1
      have z2 : (put4 w5 w1.heap.size (w.heap.size + 1) (.slice A mix.length c) (.slice A5 fifo.length c5) limit).cell? ⟨w.heap.size + 1, 2, none⟩ = _ := blk_cell HRZ.out 2
      unfold put4 at z0 z1 z2
      simp only [List.getElem?_toArray, List.getElem?_cons_zero, List.getElem?_cons_succ] at z0 z1 z2
      refine bodyPost_ret (v := .tuple #[.agg #[.slice A mix.length c, .slice A5 fifo.length c5, .int .i64 limit], .int .i64 (-1)]) (by simp [results, Try.results9, go_sem, z0, z1, z2]) rfl ?_
      rw [HON.out, HZS.out, HE1.out, HE2.out]
      exact HT.out
    · have hb0 : decide (0 ≤ on) = true := decide_eq_true (by omega)
      have e1 : fifoTo fifo limit on = if (fifo.length : Int) + 1 ≤ limit then fifo ++ [on] else (fifo ++ [on]).tail := by unfold fifoTo; rw [if_neg h0]
      have e2 : fifoOut fifo limit on = if (fifo.length : Int) + 1 ≤ limit then -1 else (fifo ++ [on]).headD 0 := by unfold fifoOut; rw [if_neg h0]
      obtain ⟨all, hall⟩ : ∃ all, fifo ++ [on] = all := ⟨_, rfl⟩
      have hlen : all.length = fifo.length + 1 := by rw [← hall]; simp
      rw [hall] at e1 e2
      have HALL := Lib.hid hall
      have HE1 := Lib.hid e1
      have HE2 := Lib.hid e2
      have HLEN := Lib.hid hlen
      clear hall e1 e2 hlen
      go_upto_region 16 with ((with_reducible refine gate_dst (N := 57) rfl ?_); at_builtin; refine Kd.R_append (Kd.int .i64) (w0 := w) w.heap.size rfl (.tmp 54) (.tmp 56) 22 3 (.int .i64 0) 8 rfl Try.underlying22 (by kernel_rfl) rfl (by decide) (by omega) (.slice A5 fifo.length c5) fifo on [.int .i64 on] (fun j => wc.heap.size ≤ j) (fun _ => False) rfl rfl ?aP (fun _ hk => hk.elim) ?aF ?aO ?aB ?aS ?aL ?_; (case aP => exact rfl); (case aF => intro j hj; omega); (case aO => exact HR5.out); (case aB => exact HB5.out); (case aS => exact HB5.out.size); (case aL => omega); intro v1 w6 hR6 hB6 hg6 hat6; rw [HALL.out] at hR6; obtain ⟨A6, c6, rfl, hc6, _⟩ := Kd.R_reads hR6; have hk6 : Kept w5 w6 (fun k => wc.heap.size ≤ k) := Kept.of_grown hg6 (Kept.refl _ _) (fun k hk => .inl (HR5.out.1 k hk)); have HR6 := Lib.hid hR6; have HB6 := Lib.hid hB6; have HK6 := Lib.hid hk6; clear hat6 hg6 hR6 hB6 hk6)
      have hsz6 := HK6.out.1
      have o6 := blk_kept o5 HK6.out (by omega)
      have r6 := blk_kept r5 HK6.out (by omega)
      have a6 := blk_kept a5 HK6.out (by omega)
      have vm6 := Kd.R_kept vm5 HK6.out (fun k h1 h2 => by omega)
      clear o5 r5 a5 vm5 HR5 HB5 HK5 HK6
      by_cases hle : (fifo.length : Int) + 1 ≤ limit
      · have he1 := HE1.out
        have he2 := HE2.out
        rw [if_pos hle] at he1 he2
        have hb1 : decide ((all.length : Int) ≤ limit) = true := decide_eq_true (by have := HLEN.out; omega)
        clear HE1 HE2
        have HE1 := Lib.hid he1
        have HE2 := Lib.hid he2
        clear he1 he2
        have o0 : w6.cell? ⟨w1.heap.size, 0, none⟩ = some (.slice A mix.length c) := blk_cell o6 0
        have o1 : w6.cell? ⟨w1.heap.size, 1, none⟩ = some (.slice none 0 0) := blk_cell o6 1
        have o2 : w6.cell? ⟨w1.heap.size, 2, none⟩ = some (.int .i64 limit) := blk_cell o6 2
        have f1 := blk_frozen o6 1
        have r0 : w6.cell? ⟨w.heap.size + 1, 0, none⟩ = some (.slice none 0 0) := blk_cell r6 0
        have r1 : w6.cell? ⟨w.heap.size + 1, 1, none⟩ = some (.slice none 0 0) := blk_cell r6 1
        have r2 : w6.cell? ⟨w.heap.size + 1, 2, none⟩ = some (.int .i64 0) := blk_cell r6 2
        have g0 := blk_frozen r6 0
        have g1 := blk_frozen r6 1
        have g2 := blk_frozen r6 2
        have a2 : w6.cell? ⟨w.heap.size, 2, none⟩ = some (.int .i64 limit) := blk_cell a6 2
        have q1 : ¬ w1.heap.size = w.heap.size + 1 := by omega
        have q2 : ¬ w.heap.size + 1 = w1.heap.size := by omega
        have q3 : ¬ w1.heap.size = w.heap.size := by omega
        have q4 : ¬ w.heap.size = w1.heap.size := by omega
        have HT := Lib.hid (two_fin (limit := limit) (out := -1) (by omega) (by omega) vm6 HR6.out HB6.out)
        have HRZ := Lib.hid (put4_rb (ob := w1.heap.size) (vm := .slice A mix.length c) (vf := .slice A6 all.length c6) (limit := limit) r6 (by omega))
        clear o6 r6 a6 vm6
        go_wp2_with fail
        have z0 : (put4 w6 w1.heap.size (w.heap.size + 1) (.slice A mix.length c) (.slice A6 all.length c6) limit).cell? ⟨w.heap.size + 1, 0, none⟩ = _ := blk_cell HRZ.out 0
        have z1 : (put4 w6 w1.heap.size (w.heap.size + 1) (.slice A mix.length c) (.slice A6 all.length c6) limit).cell? ⟨w.heap.size + 1, 1, none⟩ = _ := blk_cell HRZ.out 1
        have z2 : (put4 w6 w1.heap.size (w.heap.size + 1) (.slice A mix.length c) (.slice A6 all.length c6) limit).cell? ⟨w.heap.size + 1, 2, none⟩ = _ := blk_cell HRZ.out 2
        unfold put4 at z0 z1 z2
        simp only [List.getElem?_toArray, List.getElem?_cons_zero, List.getElem?_cons_succ] at z0 z1 z2
        refine bodyPost_ret (v := .tuple #[.agg #[.slice A mix.length c, .slice A6 all.length c6, .int .i64 limit], .int .i64 (-1)]) (by simp [results, Try.results9, go_sem, z0, z1, z2]) rfl ?_
        rw [HON.out, HZS.out, HE1.out, HE2.out]
        exact HT.out
      · have he1 := HE1.out
        have he2 := HE2.out
        rw [if_neg hle] at he1 he2
        have hb1 : decide ((all.length : Int) ≤ limit) = false := decide_eq_false (by have := HLEN.out; omega)
        have hlt : 0 < all.length := by have := HLEN.out; omega
        have hd : all.tail = all.drop 1 := by simp
        have hh : all.headD 0 = rdOf 0 all ((0 : Nat) : Int) := by
          unfold rdOf
          cases all with
          | nil => simp at hlt
          | cons y ys => rfl
        rw [hd] at he1
        rw [hh] at he2
        obtain ⟨x, hx⟩ : ∃ x, rdOf 0 all ((0 : Nat) : Int) = x := ⟨_, rfl⟩
        rw [hx] at he2
        obtain ⟨i0, hi0, hz0⟩ : ∃ i0, Try.prog.info? 3 = some i0 ∧ i0.size = 1 := by
          have h : (Try.prog.info? 3).map (·.size) = some 1 := by kernel_rfl
          exact Option.map_eq_some_iff.1 h
        obtain ⟨b6, c6', hbe, hb60, hb61, cells, hcells⟩ := Kd.R_form HR6.out hlt
        cases hbe
        obtain ⟨k7, k8⟩ := Kd.R_cell 0 HR6.out ((0 : Nat) : Int) (by omega) (by omega)
        rw [hx, Int.toNat_natCast] at k7
        have hne : ¬ c6 = 1 := by have := (Kd.R_reads' HR6.out).2.1; have := HLEN.out; omega
        have hcut := cut_from (P := Try.prog) 22 3 .i64 Try.underlying22 hi0 1 hz0 (some ⟨b6, 0, none⟩) all.length c6 1 (by omega) (by omega)
        have hlt1 : (all.drop 1).length = all.length - 1 := by simp
        have hC7 := tail_C hlt (Kd.R_reads' HR6.out).2.2
        rw [hlt1] at hC7
        have h100 : all.length ≤ 100 := by have := HLEN.out; omega
        clear HE1 HE2
        have HE1 := Lib.hid he1
        have HE2 := Lib.hid he2
        have HC7 := Lib.hid hC7
        have HL1 := Lib.hid hlt1
        have a2 : w6.cell? ⟨w.heap.size, 2, none⟩ = some (.int .i64 limit) := blk_cell a6 2
        clear he1 he2 hd hh hx hcells hC7 hlt1
        go_upto_region 20 with ((with_reducible refine gate_dst (N := 68) rfl ?_); at_builtin; refine Kd.R_append_rows (Kd.int .i64) (w0 := w) w.heap.size rfl _ (.tmp 67) 22 3 (.int .i64 0) 8 rfl Try.underlying22 (by kernel_rfl) rfl (by decide) (by omega) (.slice none 0 0) [] (all.drop 1) (some ⟨b6, 1, none⟩) (all.length - 1) (c6 - 1) (fun k => w6.heap.size ≤ k) (fun _ => False) rfl rfl (Kd.R_nil _ _ _ _ _) HC7.out (fun _ _ h => h) (fun _ h => h.elim) (fun k hk => hk) HB6.out HB6.out.size (by simp; omega) ?_; intro v1 w7 hR7 hB7 hg7 hat7; rw [List.nil_append] at hR7; obtain ⟨A7, c7, rfl, hc7⟩ : ∃ A c, v1 = .slice A (all.length - 1) c ∧ all.length - 1 ≤ c := (by obtain ⟨A, c, e, hc, _⟩ := Kd.R_reads hR7; exact ⟨A, c, by rw [e, HL1.out], by rw [← HL1.out]; exact hc⟩); have hk7 : Kept w6 w7 (fun k => w6.heap.size ≤ k) := Kept.of_grown hg7 (Kept.refl _ _) (fun k hk => .inr (by simp [Value.ownBlock] at hk)); have o7 := blk_kept o6 hk7 (by omega); have HK7 := Lib.hid hk7; have HR7 := Lib.hid hR7; have HB7 := Lib.hid hB7; have p1 : w7.cell? ⟨w1.heap.size, 1, none⟩ = some (.slice none 0 0) := blk_cell o7 1; have p2 := blk_frozen o7 1; clear hat7 hg7 hR7 hB7 hk7)
        have hsz7 := HK7.out.1
        obtain ⟨w8, hw8⟩ : ∃ w8, w7.setCell ⟨w1.heap.size, 1, none⟩ (.slice A7 (all.length - 1) c7) = w8 := ⟨_, rfl⟩
        have o7 := blk_kept o6 HK7.out (by omega)
        have r7 := blk_kept r6 HK7.out (by omega)
        have vm7 := Kd.R_kept vm6 HK7.out (fun k h1 h2 => by omega)
        have o8 := blk_set o7 1 (.slice A7 (all.length - 1) c7)
        have r8 := blk_far r7 (p := ⟨w1.heap.size, 1, none⟩) (by simp; omega) (.slice A7 (all.length - 1) c7)
        have x8 : w8.cell? ⟨b6, 0, none⟩ = some (.int .i64 x) := by
          rw [← hw8]
          have hb6 : wc.heap.size ≤ b6 := HR6.out.1 b6 rfl
          rw [World.cell?_setCell_other _ _ _ _ (by first | (simp; done) | (simp; omega))]
          exact cell_kept k7 HK7.out (by first | (simp; done) | (simp; omega))
        rw [hw8] at o8 r8
        have HT := Lib.hid (two_fin (limit := limit) (out := x) (by omega) (by omega) vm7 (Kd.R_mono HR7.out (fun k hk => (Nat.le_trans (by omega) hk : wc.heap.size ≤ k))) HB7.out)
        have HRZ := Lib.hid (put4_rb (ob := w1.heap.size) (vm := .slice A mix.length c) (vf := .slice A7 (all.length - 1) c7) (limit := limit) r7 (by omega))
        have o0 : w8.cell? ⟨w1.heap.size, 0, none⟩ = some (.slice A mix.length c) := blk_cell o8 0
        have o1 : w8.cell? ⟨w1.heap.size, 1, none⟩ = some (.slice A7 (all.length - 1) c7) := blk_cell o8 1
        have o2 : w8.cell? ⟨w1.heap.size, 2, none⟩ = some (.int .i64 limit) := blk_cell o8 2
        have r0 : w8.cell? ⟨w.heap.size + 1, 0, none⟩ = some (.slice none 0 0) := blk_cell r8 0
        have r1 : w8.cell? ⟨w.heap.size + 1, 1, none⟩ = some (.slice none 0 0) := blk_cell r8 1
        have r2 : w8.cell? ⟨w.heap.size + 1, 2, none⟩ = some (.int .i64 0) := blk_cell r8 2
        have g0 := blk_frozen r8 0
        have g1 := blk_frozen r8 1
        have g2 := blk_frozen r8 2
        have q1 : ¬ w1.heap.size = w.heap.size + 1 := by omega
        have q2 : ¬ w.heap.size + 1 = w1.heap.size := by omega
        have q3 : ¬ b6 = w.heap.size + 1 := by have hb6 : wc.heap.size ≤ b6 := HR6.out.1 b6 rfl; omega
        have q4 : ¬ w.heap.size + 1 = b6 := by omega
        rw [hw8]
        have HW8 := Lib.hid hw8
        clear hw8 o6 r6 a6 vm6 o7 r7 vm7 o8 r8 k7 k8 p1 p2 a2
        go_region
        have z0 : (put4 w7 w1.heap.size (w.heap.size + 1) (.slice A mix.length c) (.slice A7 (all.length - 1) c7) limit).drew.cell? ⟨w.heap.size + 1, 0, none⟩ = _ := blk_cell HRZ.out 0
        have z1 : (put4 w7 w1.heap.size (w.heap.size + 1) (.slice A mix.length c) (.slice A7 (all.length - 1) c7) limit).drew.cell? ⟨w.heap.size + 1, 1, none⟩ = _ := blk_cell HRZ.out 1
        have z2 : (put4 w7 w1.heap.size (w.heap.size + 1) (.slice A mix.length c) (.slice A7 (all.length - 1) c7) limit).drew.cell? ⟨w.heap.size + 1, 2, none⟩ = _ := blk_cell HRZ.out 2
        have HTD := Lib.hid (two_drew HT.out)
        unfold put4 at z0 z1 z2 HTD
        simp only [List.getElem?_toArray, List.getElem?_cons_zero, List.getElem?_cons_succ] at z0 z1 z2
        rw [HW8.out] at z0 z1 z2 HTD
        obtain ⟨wz, hwz⟩ : ∃ wz, (((w8.setCell ⟨w.heap.size + 1, 0, none⟩ (.slice A mix.length c)).setCell ⟨w.heap.size + 1, 1, none⟩ (.slice A7 (all.length - 1) c7)).setCell ⟨w.heap.size + 1, 2, none⟩ (.int .i64 limit)).drew = wz := ⟨_, rfl⟩
        rw [hwz] at z0 z1 z2 HTD ⊢
        clear hwz o0 o1 o2 r0 r1 r2 g0 g1 g2 x8
        go_wp2
        refine bodyPost_ret (v := .tuple #[.agg #[.slice A mix.length c, .slice A7 (all.length - 1) c7, .int .i64 limit], .int .i64 x]) (by simp [results, Try.results9, go_sem, z0, z1, z2]) rfl ?_
        rw [HON.out, HZS.out, HE1.out, HE2.out]
        exact HTD.out
set_option maxHeartbeats 1000000 in
theorem push_bad {Am Af : Option Addr} {cm cf : Nat} {mix fifo : List Int} {limit slot draw : Int} (w : World) (hm : (Kd.int .i64).C w Am mix.length mix) (hcm : mix.length ≤ cm) (hf : (Kd.int .i64).C w Af fifo.length fifo) (hcf : fifo.length ≤ cf) (hl : mix.length ≤ 1048576) (hl2 : fifo.length ≤ 1048576) (hg : ¬ (GoodW mix fifo limit ∧ 0 ≤ slot)) :
    Calls Try.prog 9 #[.agg #[.slice Am mix.length cm, .slice Af fifo.length cf, .int .i64 limit], .int .i64 slot, .int .i64 draw] w fun e w' => e = .returned (.tuple #[.agg #[.slice none 0 0, .slice none 0 0, .int .i64 0], .int .i64 (-1)]) ∧ Below w.heap.size w w' := by
  obtain ⟨b, hb, hbi⟩ := spec_l5Good_is mix fifo limit hl hl2 _ (Nat.le_refl _)
  have HG := Lib.hid hb
  have HM := Lib.hid hm
  have HF := Lib.hid hf
  have key : b = false ∨ (b = true ∧ slot < 0) := by
    cases b
    · exact .inl rfl
    · by_cases h0 : slot < 0
      · exact .inr ⟨rfl, h0⟩
      · exact absurd ⟨hbi.1 rfl, by omega⟩ hg
  clear hb hbi hg hm hf
  rcases key with rfl | ⟨rfl, h0⟩
  all_goals
    go_enter Try.func9, Try.ntmps9
    go_wp2_with (go_at_call 35; refine (spec_l5Good.calls _ Am cm mix Af cf fifo limit _ _ (Kd.C_alloc (Kd.C_alloc HM.out _) _) hcm (Kd.C_alloc (Kd.C_alloc HF.out _) _) hcf HG.out).mono ?_; rintro e w1 ⟨rfl, hw1⟩; have hr : w1.heap[w.heap.size + 1]? = some (.cells #[.slice none 0 0, .slice none 0 0, .int .i64 0] 26 (0, 0)) := (hw1.block _ (by simp)).trans (alloc_at (w.alloc _) _ (by simp)); have f0 := blk_frozen hr 0; have f1 := blk_frozen hr 1; have f2 := blk_frozen hr 2; have r0 : w1.cell? ⟨w.heap.size + 1, 0, none⟩ = some (.slice none 0 0) := blk_cell hr 0; have r1 : w1.cell? ⟨w.heap.size + 1, 1, none⟩ = some (.slice none 0 0) := blk_cell hr 1; have r2 : w1.cell? ⟨w.heap.size + 1, 2, none⟩ = some (.int .i64 0) := blk_cell hr 2; have hB1 : Below w.heap.size w w1 := (balloc (balloc (Below.refl _ _) _) _).trans (hw1.mono (by simp; omega)); have HB1 := Lib.hid hB1; have HRR := Lib.hid hr; clear hw1 hB1 hr)
    have hb3 := blk_set (blk_set (blk_set HRR.out 0 (.slice none 0 0)) 1 (.slice none 0 0)) 2 (.int .i64 0)
    have z0 := blk_cell hb3 0
    have z1 := blk_cell hb3 1
    have z2 := blk_cell hb3 2
    simp only [Array.setIfInBounds, List.getElem?_toArray] at z0 z1 z2
    refine bodyPost_ret (v := .tuple #[.agg #[.slice none 0 0, .slice none 0 0, .int .i64 0], .int .i64 (-1)]) (by simp [results, Try.results9, go_sem, z0, z1, z2]) rfl ⟨rfl, ((HB1.out.setCell (p := ⟨w.heap.size + 1, 0, none⟩) (by simp) _).setCell (p := ⟨w.heap.size + 1, 1, none⟩) (by simp) _).setCell (p := ⟨w.heap.size + 1, 2, none⟩) (by simp) _⟩
end Go.Proofs.Ytklobepkihdbkaa.WpS
