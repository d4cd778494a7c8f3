/- The program's WaitPush: what a push leaves. -/
import Derived.Test.YtklobepkihdbkaaWpI
import Derived.Deep.DeepCutAuto
import Derived.Deep.CutBlock
import Derived.Deep.RegionHeld3
import Derived.OwnWalk
namespace Go.Proofs.Ytklobepkihdbkaa.WpJ
open Go.RowKit Go.Proofs.Ytklobepkihdbkaa.PFnExactWaitPush Go.Proofs.YtklobepkihdbkaaW.PrintWords Go.Proofs.YtklobepkihdbkaaW.PrintLast Go.Proofs.YtklobepkihdbkaaW.PrintMore Wp WpG WpI
set_option linter.unusedVariables false
set_option linter.unusedSimpArgs false
theorem balloc {w w1 : World} (h : Below w.heap.size w w1) (o : Obj) : Below w.heap.size w (w1.alloc o) := h.alloc h.size o
theorem bstep {w w1 w2 : World} (h : Below w.heap.size w w1) (h' : Below w1.heap.size w1 w2) : Below w.heap.size w w2 := h.trans (h'.mono h.size)
theorem alloc_old {w : World} {o : Obj} {i : Nat} (h : w.heap[i]? = some o) (o' : Obj) : (w.alloc o').heap[i]? = some o := ((below_alloc (Below.refl _ _) o').block i (blk_lt h)).trans h
theorem alloc_at (w : World) (o : Obj) {i : Nat} (hi : i = w.heap.size) : (w.alloc o).heap[i]? = some o := by subst hi; exact heap_alloc_new w o
theorem R_empty {e base : Nat} {ok : Nat → Prop} (W : World) (hb : base ≤ W.heap.size) (hok : ok W.heap.size) : (Kd.int .i64).R e (W.alloc (.cells #[] e)) base ok (.slice (some ⟨W.heap.size, 0, none⟩) 0 0) [] :=
  ⟨fun k hk => by simp [Value.ownBlock] at hk; subst hk; exact hok, OwnRow.lit W base (Reps.none _ _) hb (by simp)⟩
def Two (w : World) (mix fifo : List Int) (limit out : Int) (e : Ending) (w' : World) : Prop :=
  ∃ vm vf : Value, e = .returned (.tuple #[.agg #[vm, vf, .int .i64 limit], .int .i64 out]) ∧ (Kd.int .i64).R 3 w' w.heap.size (fun k => some k ≠ vf.ownBlock) vm mix ∧ (Kd.int .i64).R 3 w' w.heap.size (fun k => some k ≠ vm.ownBlock) vf fifo ∧ Below w.heap.size w w'
def Fin (w wx : World) (gm gl : Nat) (A1 : Option Addr) (c1 : Nat) (arg res : Option Obj) (mix mix' fifo' : List Int) (limit : Int) : Prop :=
  (wx.heap[w.heap.size]? = arg ∧ wx.heap[w.heap.size + 1]? = res) ∧ wx.heap[gm]? = some (.cells #[.slice A1 mix.length c1] 70 (0, 0)) ∧ (Kd.int .i64).R 3 wx w.heap.size (fun k => w.heap.size + 1 < k ∧ k < gm) (.slice A1 mix.length c1) mix' ∧
  (∃ A c, wx.heap[gl]? = some (.cells #[.slice A fifo'.length c, .int .i64 limit] 73 (0, 0)) ∧ fifo'.length ≤ c ∧ (Kd.int .i64).C wx A fifo'.length fifo') ∧ Below w.heap.size w wx
theorem fin_line {w wr w9 : World} {gm gl : Nat} {A1 A9 : Option Addr} {c1 c9 : Nat} {arg res : Obj} {mix mix' ys : List Int} {limit : Int}
    (ha : wr.heap[w.heap.size]? = some arg) (hr : wr.heap[w.heap.size + 1]? = some res) (hm : wr.heap[gm]? = some (.cells #[.slice A1 mix.length c1] 70 (0, 0)))
    (hv : (Kd.int .i64).R 3 wr w.heap.size (fun k => w.heap.size + 1 < k ∧ k < gm) (.slice A1 mix.length c1) mix') (h1 : w.heap.size + 1 < gm) (h2 : gm < gl)
    (hl : w9.heap[gl]? = some (.cells #[.slice A9 ys.length c9, .int .i64 limit] 73 (0, 0))) (hc : ys.length ≤ c9) (hC : (Kd.int .i64).C w9 A9 ys.length ys) (hB : Below w.heap.size w w9) (hk : Kept wr w9 (fun k => k = gl ∨ ((gm < k ∧ k < gl) ∨ gl + 1 < k))) :
    Fin w w9 gm gl A1 c1 (some arg) (some res) mix mix' ys limit :=
  ⟨⟨blk_kept ha hk (by omega), blk_kept hr hk (by omega)⟩, blk_kept hm hk (by omega), Kd.R_kept hv hk (fun k h3 h4 => by omega), ⟨A9, c9, hl, hc, hC⟩, hB⟩
theorem meth_mix (a : Addr) (w : World) : (method 285 66 (.pointer (some a)) "loop.example/s01868/impl.push").run Try.prog w = .ok (139, .pointer (some a)) w := by kernel_rfl
theorem meth_line (a : Addr) (w : World) : (method 285 71 (.pointer (some a)) "loop.example/s01868/impl.push").run Try.prog w = .ok (142, .pointer (some a)) w := by kernel_rfl
def Mid (w wx : World) (gm gl : Nat) (A1 : Option Addr) (c1 : Nat) (A2 : Option Addr) (c2 : Nat) (arg res ifs : Option Obj) (mix mix' fifo : List Int) (limit : Int) : Prop :=
  (wx.heap[w.heap.size]? = arg ∧ wx.heap[w.heap.size + 1]? = res ∧ wx.heap[gl + 1]? = ifs) ∧ wx.heap[gm]? = some (.cells #[.slice A1 mix.length c1] 70 (0, 0)) ∧ (Kd.int .i64).R 3 wx w.heap.size (fun k => w.heap.size + 1 < k ∧ k < gm) (.slice A1 mix.length c1) mix' ∧
  wx.heap[gl]? = some (.cells #[.slice A2 fifo.length c2, .int .i64 limit] 73 (0, 0)) ∧ (Kd.int .i64).R 3 wx w.heap.size (fun k => (gm < k ∧ k < gl) ∨ gl + 1 < k) (.slice A2 fifo.length c2) fifo ∧ Below w.heap.size w wx
set_option maxRecDepth 100000 in
set_option maxHeartbeats 4000000 in
theorem push_good {Am Af : Option Addr} {cm cf : Nat} {mix fifo : List Int} {limit slot draw : Int} (w : World) (hm : (Kd.int .i64).C w Am mix.length mix) (hcm : mix.length ≤ cm) (hf : (Kd.int .i64).C w Af fifo.length fifo) (hcf : fifo.length ≤ cf) (hg : GoodW mix fifo limit) (hs : 0 ≤ slot) :
    Calls Try.prog 11 #[.agg #[.slice Am mix.length cm, .slice Af fifo.length cf, .int .i64 limit], .int .i64 slot, .int .i64 draw] w (Two w (mixed mix slot draw) (fifoTo fifo limit (mixOut mix slot draw)) limit (fifoOut fifo limit (mixOut mix slot draw))) := by
  have hml := hg.mixLen
  have hl1 := hg.limLo
  have hl2 := hg.limHi
  have hfl := hg.fifoLen
  obtain ⟨b, hb, hbi⟩ := impl_good_is mix fifo limit (by omega) (by omega) _ (Nat.le_refl _)
  obtain rfl : b = true := hbi.2 hg
  have HG := Lib.hid hb
  have HGW := Lib.hid hg
  have HM := Lib.hid hm
  have HF := Lib.hid hf
  clear hb hbi hg hm hf
  go_enter Try.func11, Try.ntmps11
  go_upto_region 3 with (go_at_call 37; refine (impl_good.calls _ Am cm mix Af cf fifo limit true _ (Kd.C_alloc (Kd.C_alloc HM.out _) _) hcm (Kd.C_alloc (Kd.C_alloc HF.out _) _) hcf HG.out).mono ?_; rintro e w1 ⟨rfl, hw1⟩)
  have ha : w1.heap[w.heap.size]? = some (.cells #[.slice Am mix.length cm, .slice Af fifo.length cf, .int .i64 limit] 26 (0, 0)) := (hw1.block _ (by simp; omega)).trans (alloc_old (heap_alloc_new w _) _)
  have hr : w1.heap[w.heap.size + 1]? = some (.cells #[.slice none 0 0, .slice none 0 0, .int .i64 0] 26 (0, 0)) := (hw1.block _ (by simp)).trans (alloc_at (w.alloc _) _ (by simp))
  have hB1 : Below w.heap.size w w1 := (balloc (balloc (Below.refl _ _) _) _).trans (hw1.mono (by simp; omega))
  have hz1 : w.heap.size + 2 ≤ w1.heap.size := by have := hw1.size; simp at this; omega
  have hac0 : ∀ o, (w1.alloc o).cell? ⟨w.heap.size, 0, none⟩ = some (.slice Am mix.length cm) := fun o => blk_cell (alloc_old ha o) 0
  have HA := Lib.hid ha
  have HR := Lib.hid hr
  have HB1 := Lib.hid hB1
  clear hw1 ha hr hB1
  go_upto_region 4 with ((with_reducible refine gate_dst (N := 23) rfl ?_); at_builtin; refine Kd.R_append_rows (Kd.int .i64) (w0 := w) w.heap.size rfl (.tmp 20) (.tmp 22) 22 3 (.int .i64 0) 8 rfl Try.underlying22 (by kernel_rfl) rfl (by decide) (by omega) (.slice (some ⟨w1.heap.size, 0, none⟩) 0 0) [] mix Am mix.length cm (fun k => w1.heap.size ≤ k) (fun _ => False) rfl rfl (R_empty w1 (by omega) (Nat.le_refl _)) (Kd.C_below (Kd.C_below HM.out HB1.out) (balloc (Below.refl _ _) _)) (fun _ _ h => h) (fun _ h => h.elim) (fun k hk => by simp at hk; omega) (balloc HB1.out _) (by simp; omega) (by simp; omega) ?_; intro v1 w2 hR1 hB2 hg2 hat2; rw [List.nil_append] at hR1; obtain ⟨A1, c1, rfl, hc1, _⟩ := Kd.R_reads hR1; have hg12 : Kept w1 w2 (fun k => w1.heap.size ≤ k) := Kept.of_grown hg2 ((Kept.refl _ _).alloc _) (fun k hk => .inr (by simp [Value.ownBlock] at hk; omega)); clear hat2 hg2)
  have ha2 := blk_kept HA.out hg12 (by omega)
  have hr2 := blk_kept HR.out hg12 (by omega)
  have hF2 := Kd.C_below HF.out hB2
  have hz2 := hg12.1
  have HA2 := Lib.hid ha2
  have HR2 := Lib.hid hr2
  have HF2 := Lib.hid hF2
  have HV1 := Lib.hid hR1
  have HB2 := Lib.hid hB2
  clear hac0 ha2 hr2 hF2 hR1 hB2 hg12 HA HR HF HB1
  obtain ⟨gm, hgm⟩ : ∃ gm, w2.heap.size = gm := ⟨_, rfl⟩
  obtain ⟨w3, hw3⟩ : ∃ w3, w2.alloc (.cells #[.slice A1 mix.length c1] 70) = w3 := ⟨_, rfl⟩
  have ha3 : w3.heap[w.heap.size]? = some (.cells #[.slice Am mix.length cm, .slice Af fifo.length cf, .int .i64 limit] 26 (0, 0)) := by rw [← hw3]; exact alloc_old HA2.out _
  have hr3 : w3.heap[w.heap.size + 1]? = some (.cells #[.slice none 0 0, .slice none 0 0, .int .i64 0] 26 (0, 0)) := by rw [← hw3]; exact alloc_old HR2.out _
  have hm3 : w3.heap[gm]? = some (.cells #[.slice A1 mix.length c1] 70 (0, 0)) := by rw [← hw3, ← hgm]; exact heap_alloc_new w2 _
  have hf3 : (Kd.int .i64).C w3 Af fifo.length fifo := by rw [← hw3]; exact Kd.C_alloc HF2.out _
  have hv3 : (Kd.int .i64).R 3 w3 w.heap.size (fun k => w1.heap.size ≤ k ∧ k < gm) (.slice A1 mix.length c1) mix := by
    rw [← hw3, ← hgm]
    exact Kd.R_alloc (Kd.R_mono (Kd.R_bound HV1.out) (fun k hk => ⟨hk.1, hk.2.2.1⟩)) _
  have hB3 : Below w.heap.size w w3 := by rw [← hw3]; exact balloc HB2.out _
  have hz3 : w3.heap.size = gm + 1 := by rw [← hw3, ← hgm]; simp
  rw [hw3, hgm]
  have hz4 : w1.heap.size ≤ gm := by omega
  have hz5 : w1.heap.size < w3.heap.size := by omega
  have hac1 := blk_cell ha3 1
  have hac2 := blk_cell ha3 2
  simp only [List.getElem?_toArray, List.getElem?_cons_zero, List.getElem?_cons_succ] at hac1 hac2
  have HA3 := Lib.hid ha3
  have HR3 := Lib.hid hr3
  have HM3 := Lib.hid hm3
  have HF3 := Lib.hid hf3
  have HV3 := Lib.hid hv3
  have HB3 := Lib.hid hB3
  have HZ3 := Lib.hid hz3
  clear hw3 hgm ha3 hr3 hm3 hf3 hv3 hB3 HA2 HR2 HF2 HV1 HB2 hz3
  go_region_held3 (fun w' => w'.cell? ⟨w.heap.size, 1, none⟩ = some (.slice Af fifo.length cf) ∧ w'.cell? ⟨w.heap.size, 2, none⟩ = some (.int .i64 limit))
    (first | go_keep | (exact ⟨(cell_kept hac1 hk35 (by simp; omega)), (cell_kept hac2 hk35 (by simp; omega))⟩))
    ((refine Kd.R_append_rows_step (Kd.int .i64) (w0 := w) w.heap.size (by rfl) _ _ 22 3 (.int .i64 0) 8 (by rfl) Try.underlying22 (by kernel_rfl) rfl (by decide) (by omega) (.slice (some ⟨w3.heap.size, 0, none⟩) 0 0) [] fifo Af fifo.length cf (fun k => w3.heap.size ≤ k) (fun _ => False) (by rfl) (by rfl) (Kd.R_drew (R_empty w3 HB3.out.size (Nat.le_refl _))) (Kd.C_drew (Kd.C_alloc HF3.out _)) (fun _ _ h => h) (fun _ h => h.elim) (fun k hk => by simp at hk; omega) (below_drew (balloc HB3.out _)) (by have := HB3.out.size; simp; omega) (by simp; omega) ?_; intro v2 w5 hR5 hB5 hg5 hat5; rw [List.nil_append] at hR5; obtain ⟨A2, c2, rfl, hc2, _⟩ := Kd.R_reads hR5; have hk35 : Kept w3 w5 (fun k => w3.heap.size ≤ k) := Kept.of_grown hg5 (((Kept.refl _ _).alloc _).drew) (fun k hk => .inr (by simp [Value.ownBlock] at hk; omega)); clear hat5 hg5))
  have hk35b := hk35.1
  have hz3 := HZ3.out
  obtain ⟨gl, hgl⟩ : ∃ gl, w5.heap.size = gl := ⟨_, rfl⟩
  obtain ⟨w6, hw6⟩ : ∃ w6, w5.alloc (.cells #[.slice A2 fifo.length c2, .int .i64 limit] 73) = w6 := ⟨_, rfl⟩
  have ha6 : w6.heap[w.heap.size]? = some (.cells #[.slice Am mix.length cm, .slice Af fifo.length cf, .int .i64 limit] 26 (0, 0)) := by rw [← hw6]; exact alloc_old (blk_kept HA3.out hk35 (by omega)) _
  have hr6 : w6.heap[w.heap.size + 1]? = some (.cells #[.slice none 0 0, .slice none 0 0, .int .i64 0] 26 (0, 0)) := by rw [← hw6]; exact alloc_old (blk_kept HR3.out hk35 (by omega)) _
  have hm6 : w6.heap[gm]? = some (.cells #[.slice A1 mix.length c1] 70 (0, 0)) := by rw [← hw6]; exact alloc_old (blk_kept HM3.out hk35 (by omega)) _
  have hl6 : w6.heap[gl]? = some (.cells #[.slice A2 fifo.length c2, .int .i64 limit] 73 (0, 0)) := by rw [← hw6, ← hgl]; exact heap_alloc_new w5 _
  have hv6 : (Kd.int .i64).R 3 w6 w.heap.size (fun k => w1.heap.size ≤ k ∧ k < gm) (.slice A1 mix.length c1) mix := by
    rw [← hw6]
    exact Kd.R_alloc (Kd.R_kept HV3.out hk35 (fun k hk h2 => by omega)) _
  have hu6 : (Kd.int .i64).R 3 w6 w.heap.size (fun k => gm < k ∧ k < gl) (.slice A2 fifo.length c2) fifo := by
    rw [← hw6, ← hgl]
    exact Kd.R_alloc (Kd.R_mono (Kd.R_bound hR5) (fun k hk => ⟨by have := hk.1; omega, hk.2.2.1⟩)) _
  have hB6 : Below w.heap.size w w6 := by rw [← hw6]; exact balloc hB5 _
  have hz6 : w6.heap.size = gl + 1 := by rw [← hw6, ← hgl]; simp
  rw [hw6, hgl]
  have hz7 : gm < gl := by omega
  have hz8 : w.heap.size + 2 ≤ gm := by omega
  have HA6 := Lib.hid ha6
  have HR6 := Lib.hid hr6
  have HM6 := Lib.hid hm6
  have HL6 := Lib.hid hl6
  have HV6 := Lib.hid hv6
  have HU6 := Lib.hid hu6
  have HB6 := Lib.hid hB6
  have HZ6 := Lib.hid hz6
  clear hw6 hgl ha6 hr6 hm6 hl6 hv6 hu6 hB6 hz6 hz3 HA3 HR3 HM3 HF3 HV3 HB3 HZ3 hR5 hB5 hk35 hac1 hac2
  have mm := meth_mix
  have ml := meth_line
  go_upto_block 0 with fail
  have hz6 := HZ6.out
  obtain ⟨w7, hw7⟩ : ∃ w7, w6.alloc (.cells #[.iface 66 (.pointer (some ⟨gm, 0, none⟩)), .iface 71 (.pointer (some ⟨gl, 0, none⟩))] 76) = w7 := ⟨_, rfl⟩
  have ha7 : w7.heap[w.heap.size]? = some (.cells #[.slice Am mix.length cm, .slice Af fifo.length cf, .int .i64 limit] 26 (0, 0)) := by rw [← hw7]; exact alloc_old HA6.out _
  have hr7 : w7.heap[w.heap.size + 1]? = some (.cells #[.slice none 0 0, .slice none 0 0, .int .i64 0] 26 (0, 0)) := by rw [← hw7]; exact alloc_old HR6.out _
  have hm7 : w7.heap[gm]? = some (.cells #[.slice A1 mix.length c1] 70 (0, 0)) := by rw [← hw7]; exact alloc_old HM6.out _
  have hl7 : w7.heap[gl]? = some (.cells #[.slice A2 fifo.length c2, .int .i64 limit] 73 (0, 0)) := by rw [← hw7]; exact alloc_old HL6.out _
  have hi7 : w7.heap[gl + 1]? = some (.cells #[.iface 66 (.pointer (some ⟨gm, 0, none⟩)), .iface 71 (.pointer (some ⟨gl, 0, none⟩))] 76 (0, 0)) := by rw [← hw7, ← hz6]; exact heap_alloc_new w6 _
  have hv7 : (Kd.int .i64).R 3 w7 w.heap.size (fun k => w1.heap.size ≤ k ∧ k < gm) (.slice A1 mix.length c1) mix := by rw [← hw7]; exact Kd.R_alloc HV6.out _
  have hu7 : (Kd.int .i64).R 3 w7 w.heap.size (fun k => (gm < k ∧ k < gl) ∨ gl + 1 < k) (.slice A2 fifo.length c2) fifo := by rw [← hw7]; exact Kd.R_alloc (Kd.R_mono HU6.out (fun k hk => .inl hk)) _
  have hB7 : Below w.heap.size w w7 := by rw [← hw7]; exact balloc HB6.out _
  have hz9 : w7.heap.size = gl + 2 := by rw [← hw7]; simp; omega
  rw [hw7, hz6]
  have hs0 := HGW.out
  obtain ⟨on, hon⟩ : ∃ on, mixOut mix slot draw = on := ⟨_, rfl⟩
  have hon1 : -1 ≤ on := by rw [← hon]; exact out_lo hs0 hs draw
  rw [hon]
  have HA7 := Lib.hid ha7
  have HR7 := Lib.hid hr7
  have HM7 := Lib.hid hm7
  have HL7 := Lib.hid hl7
  have HI7 := Lib.hid hi7
  have HV7 := Lib.hid hv7
  have HU7 := Lib.hid hu7
  have HB7 := Lib.hid hB7
  have HZ9 := Lib.hid hz9
  have HON := Lib.hid hon
  clear hw7 ha7 hr7 hm7 hl7 hi7 hv7 hu7 hB7 hz9 hz6 hon hs0 HA6 HR6 HM6 HL6 HV6 HU6 HB6 HZ6
  go_cut [1] (fun s1 wx => s1 = .int .i64 (fifoOut fifo limit on) ∧ Hid (Fin w wx gm gl A1 c1 (some (.cells #[.slice Am mix.length cm, .slice Af fifo.length cf, .int .i64 limit] 26 (0, 0))) (some (.cells #[.slice none 0 0, .slice none 0 0, .int .i64 0] 26 (0, 0))) mix (mixed mix slot draw) (fifoTo fifo limit on) limit))
  case first =>
    go_wp2_with fail
    go_loopw [1, 42] (fun s i wr => ∃ j : Nat, i = .int .i64 j ∧ ((j = 0 ∧ s = .int .i64 slot ∧ wr = w7) ∨ (j = 1 ∧ 0 ≤ on ∧ s = .int .i64 on ∧ Hid (Mid w wr gm gl A1 c1 A2 c2 (some (.cells #[.slice Am mix.length cm, .slice Af fifo.length cf, .int .i64 limit] 26 (0, 0))) (some (.cells #[.slice none 0 0, .slice none 0 0, .int .i64 0] 26 (0, 0))) (some (.cells #[.iface 66 (.pointer (some ⟨gm, 0, none⟩)), .iface 71 (.pointer (some ⟨gl, 0, none⟩))] 76 (0, 0))) mix (mixed mix slot draw) fifo limit)) ∨ (j = 2 ∧ s = .int .i64 (fifoOut fifo limit on) ∧ Hid (Fin w wr gm gl A1 c1 (some (.cells #[.slice Am mix.length cm, .slice Af fifo.length cf, .int .i64 limit] 26 (0, 0))) (some (.cells #[.slice none 0 0, .slice none 0 0, .int .i64 0] 26 (0, 0))) mix (mixed mix slot draw) (fifoTo fifo limit on) limit)))) (fun _ i _ => 2 - (intOf i).toNat)
    case atStart => exact ⟨0, rfl, .inl ⟨rfl, rfl, rfl⟩⟩
    case round =>
      obtain ⟨j, rfl, ⟨rfl, rfl, rfl⟩ | ⟨rfl, hon0, rfl, HMID⟩ | ⟨rfl, rfl, HFIN⟩⟩ := hrel
      · have k0 := blk_cell HI7.out 0
        simp only [List.getElem?_toArray, List.getElem?_cons_zero] at k0
        by_cases hneg : on < 0
        · go_wp2_with (go_at_call 139; refine (mix_push w _ slot draw HM7.out HV7.out (fun k hk => by omega) hml HB7.out).mono ?_; rintro e w8 ⟨rfl, hm8, hv8, hB8, hk8⟩; rw [HON.out]; have HM8 := Lib.hid hm8; have HV8 := Lib.hid hv8; have HB8 := Lib.hid hB8; have HK8 := Lib.hid hk8; clear hm8 hv8 hB8 hk8)
          go_meet
          refine ⟨by unfold fifoOut; rw [if_pos hneg]; rw [show on = -1 by omega], Lib.hid ⟨⟨blk_kept HA7.out HK8.out (by omega), blk_kept HR7.out HK8.out (by omega)⟩, HM8.out, Kd.R_mono HV8.out (fun k hk => ⟨by omega, hk.2⟩), ?_, HB8.out⟩⟩
          have hu8 := Kd.R_reads' (Kd.R_kept HU7.out HK8.out (fun k hk h2 => by omega))
          unfold fifoTo
          rw [if_pos hneg]
          exact ⟨A2, c2, blk_kept HL7.out HK8.out (by omega), hu8.2.1, hu8.2.2⟩
        · have hnb : decide (on < 0) = false := decide_eq_false hneg
          go_wp2_with (go_at_call 139; refine (mix_push w _ slot draw HM7.out HV7.out (fun k hk => by omega) hml HB7.out).mono ?_; rintro e w8 ⟨rfl, hm8, hv8, hB8, hk8⟩; rw [HON.out]; have HM8 := Lib.hid hm8; have HV8 := Lib.hid hv8; have HB8 := Lib.hid hB8; have HK8 := Lib.hid hk8; clear hm8 hv8 hB8 hk8)
          go_roundw
          case rel => exact ⟨1, rfl, .inr (.inl ⟨rfl, by omega, rfl, Lib.hid ⟨⟨blk_kept HA7.out HK8.out (by omega), blk_kept HR7.out HK8.out (by omega), blk_kept HI7.out HK8.out (by omega)⟩, HM8.out, Kd.R_mono HV8.out (fun k hk => ⟨by omega, hk.2⟩), blk_kept HL7.out HK8.out (by omega), Kd.R_kept HU7.out HK8.out (fun k hk h2 => by omega), HB8.out⟩⟩)⟩
          case measure => simp [intOf]
      · obtain ⟨⟨ha8, hr8, hi8⟩, hm8, hv8, hl8, hu8, hB8⟩ := HMID.out
        have k0 := blk_cell hi8 1
        simp only [List.getElem?_toArray, List.getElem?_cons_zero, List.getElem?_cons_succ] at k0
        have HA8 := Lib.hid ha8
        have HR8 := Lib.hid hr8
        have HI8 := Lib.hid hi8
        have HM8 := Lib.hid hm8
        have HV8 := Lib.hid hv8
        have HL8 := Lib.hid hl8
        have HU8 := Lib.hid hu8
        have HB8 := Lib.hid hB8
        clear ha8 hr8 hi8 hm8 hv8 hl8 hu8 hB8 HMID
        by_cases hneg : fifoOut fifo limit on < 0
        · go_wp2_with (go_at_call 142; refine (line_push w _ on draw HL8.out HU8.out (fun k hk => by omega) (fun k hk => by have := blk_lt HI8.out; omega) (by omega) (by omega) HB8.out hon0 hl1 (by omega)).mono ?_; rintro e w9 ⟨rfl, v9, hl9, ⟨A9, c9, rfl, hc9, hC9, _⟩, hB9, hk9⟩; have HF9 := Lib.hid (fin_line HA8.out HR8.out HM8.out HV8.out (by omega) (by omega) hl9 hc9 hC9 hB9 hk9); clear hl9 hC9 hB9 hk9)
          go_meet
          exact ⟨rfl, HF9⟩
        · have hnb : decide (fifoOut fifo limit on < 0) = false := decide_eq_false hneg
          go_wp2_with (go_at_call 142; refine (line_push w _ on draw HL8.out HU8.out (fun k hk => by omega) (fun k hk => by have := blk_lt HI8.out; omega) (by omega) (by omega) HB8.out hon0 hl1 (by omega)).mono ?_; rintro e w9 ⟨rfl, v9, hl9, ⟨A9, c9, rfl, hc9, hC9, _⟩, hB9, hk9⟩; have HF9 := Lib.hid (fin_line HA8.out HR8.out HM8.out HV8.out (by omega) (by omega) hl9 hc9 hC9 hB9 hk9); clear hl9 hC9 hB9 hk9)
          go_roundw
          case rel => exact ⟨2, rfl, .inr (.inr ⟨rfl, rfl, HF9⟩)⟩
          case measure => simp [intOf]
      · go_wp2_with fail
        go_meet
        exact ⟨rfl, HFIN⟩
  case rest =>
    obtain ⟨rfl, HFIN⟩ := hcut
    obtain ⟨⟨ha9, hr9⟩, hm9, hv9, ⟨A9, c9, hl9, hc9, hC9⟩, hB9⟩ := HFIN.out
    have hfl9 : (fifoTo fifo limit on).length ≤ 32 := by
      have h1 := (good_step HGW.out hs draw).fifoLen
      rw [HON.out] at h1
      omega
    obtain ⟨ys, hys⟩ : ∃ ys, fifoTo fifo limit on = ys := ⟨_, rfl⟩
    obtain ⟨zs, hzs⟩ : ∃ zs, mixed mix slot draw = zs := ⟨_, rfl⟩
    obtain ⟨out, hout⟩ : ∃ out, fifoOut fifo limit on = out := ⟨_, rfl⟩
    rw [hys] at hl9 hc9 hC9 hfl9
    rw [hzs] at hv9
    rw [hout]
    have HYS := Lib.hid hys
    have HZS := Lib.hid hzs
    have HOUT := Lib.hid hout
    have c0 : wc.cell? ⟨gm, 0, none⟩ = some (.slice A1 mix.length c1) := blk_cell hm9 0
    have c1' : wc.cell? ⟨gl, 0, none⟩ = some (.slice A9 ys.length c9) := blk_cell hl9 0
    have c2' : wc.cell? ⟨w.heap.size, 2, none⟩ = some (.int .i64 limit) := blk_cell ha9 2
    have hglt := blk_lt hl9
    have HR9 := Lib.hid hr9
    have HV9 := Lib.hid hv9
    have HC9 := Lib.hid hC9
    have HB9 := Lib.hid hB9
    clear HFIN hr9 hv9 hC9 hB9 ha9 hm9 hl9 hys hzs hout HA7 HR7 HM7 HL7 HI7 HV7 HU7 HB7 HZ9
    have q1 : ¬ gm = w.heap.size + 1 := by omega
    have q2 : ¬ w.heap.size + 1 = gm := by omega
    have q3 : ¬ gl = w.heap.size + 1 := by omega
    have q4 : ¬ w.heap.size + 1 = gl := by omega
    go_wp2_with fail
    go_region_held3 (fun w' => w'.cell? ⟨gm, 0, none⟩ = some (.slice A1 mix.length c1) ∧ w'.cell? ⟨gl, 0, none⟩ = some (.slice A9 ys.length c9) ∧ w'.cell? ⟨w.heap.size, 2, none⟩ = some (.int .i64 limit))
      (first | go_keep | (exact ⟨(cell_kept c0 hk (by simp; omega)), (cell_kept c1' hk (by simp; omega)), (cell_kept c2' hk (by simp; omega))⟩))
      ((refine Kd.R_append_rows_step (Kd.int .i64) (w0 := w) w.heap.size (by rfl) _ _ 22 3 (.int .i64 0) 8 (by rfl) Try.underlying22 (by kernel_rfl) rfl (by decide) (by omega) (.slice (some ⟨wc.heap.size, 0, none⟩) 0 0) [] ys A9 ys.length c9 (fun k => wc.heap.size ≤ k) (fun _ => False) (by rfl) (by rfl) (Kd.R_drew (R_empty wc HB9.out.size (Nat.le_refl _))) (Kd.C_drew (Kd.C_alloc HC9.out _)) (fun _ _ h => h) (fun _ h => h.elim) (fun k hk => by simp at hk; omega) (below_drew (balloc HB9.out _)) (by have := HB9.out.size; simp; omega) (by simp; omega) ?_; intro v2 w5 hR5 hB5 hg5 hat5; rw [List.nil_append] at hR5; obtain ⟨A2, c2, rfl, hc2, _⟩ := Kd.R_reads hR5; have hk : Kept wc w5 (fun k => wc.heap.size ≤ k) := Kept.of_grown hg5 (((Kept.refl _ _).alloc _).drew) (fun k hk => .inr (by simp [Value.ownBlock] at hk; omega)); have hrb := blk_kept HR9.out hk (by omega); have f0 := blk_frozen hrb 0; have f1 := blk_frozen hrb 1; have f2 := blk_frozen hrb 2; have r0 : w5.cell? ⟨w.heap.size + 1, 0, none⟩ = some (.slice none 0 0) := blk_cell hrb 0; have r1 : w5.cell? ⟨w.heap.size + 1, 1, none⟩ = some (.slice none 0 0) := blk_cell hrb 1; have r2 : w5.cell? ⟨w.heap.size + 1, 2, none⟩ = some (.int .i64 0) := blk_cell hrb 2; clear hat5 hg5))
    have hb3 := blk_set (blk_set (blk_set hrb 0 (.slice A1 mix.length c1)) 1 (.slice A2 ys.length c2)) 2 (.int .i64 limit)
    obtain ⟨wz, hwz⟩ : ∃ wz, (((w5.setCell ⟨w.heap.size + 1, 0, none⟩ (.slice A1 mix.length c1)).setCell ⟨w.heap.size + 1, 1, none⟩ (.slice A2 ys.length c2)).setCell ⟨w.heap.size + 1, 2, none⟩ (.int .i64 limit)) = wz := ⟨_, rfl⟩
    have hvz : (Kd.int .i64).R 3 wz w.heap.size (fun k => w.heap.size + 1 < k ∧ k < gm) (.slice A1 mix.length c1) zs := by
      rw [← hwz]
      exact Kd.R_far (p := ⟨w.heap.size + 1, 2, none⟩) (Kd.R_far (p := ⟨w.heap.size + 1, 1, none⟩) (Kd.R_far (p := ⟨w.heap.size + 1, 0, none⟩) (Kd.R_kept HV9.out hk (fun k h3 h4 => by omega)) (fun k hk => by simp; omega) _) (fun k hk => by simp; omega) _) (fun k hk => by simp; omega) _
    have huz : (Kd.int .i64).R 3 wz w.heap.size (fun k => wc.heap.size ≤ k) (.slice A2 ys.length c2) ys := by
      rw [← hwz]
      exact Kd.R_far (p := ⟨w.heap.size + 1, 2, none⟩) (Kd.R_far (p := ⟨w.heap.size + 1, 1, none⟩) (Kd.R_far (p := ⟨w.heap.size + 1, 0, none⟩) hR5 (fun k hk => by simp; omega) _) (fun k hk => by simp; omega) _) (fun k hk => by simp; omega) _
    have hBz : Below w.heap.size w wz := by
      rw [← hwz]
      exact ((hB5.setCell (p := ⟨w.heap.size + 1, 0, none⟩) (by simp) _).setCell (p := ⟨w.heap.size + 1, 1, none⟩) (by simp) _).setCell (p := ⟨w.heap.size + 1, 2, none⟩) (by simp) _
    rw [hwz] at hb3 ⊢
    have z0 : wz.cell? ⟨w.heap.size + 1, 0, none⟩ = some (.slice A1 mix.length c1) := blk_cell hb3 0
    have z1 : wz.cell? ⟨w.heap.size + 1, 1, none⟩ = some (.slice A2 ys.length c2) := blk_cell hb3 1
    have z2 : wz.cell? ⟨w.heap.size + 1, 2, none⟩ = some (.int .i64 limit) := blk_cell hb3 2
    have HVZ := Lib.hid hvz
    have HUZ := Lib.hid huz
    have HBZ := Lib.hid hBz
    have HL := Lib.hid hglt
    clear hwz hvz huz hBz hb3 hR5 hB5 hk hrb f0 f1 f2 r0 r1 r2 HV9 HR9 HC9 HB9 hglt
    go_wp2
    refine bodyPost_ret (v := .tuple #[.agg #[.slice A1 mix.length c1, .slice A2 ys.length c2, .int .i64 limit], .int .i64 out]) (by simp [results, Try.results11, go_sem, z0, z1, z2]) rfl ?_
    rw [HON.out, HYS.out, HZS.out, HOUT.out]
    refine ⟨_, _, rfl, Kd.R_mono HVZ.out (fun k hk he => ?_), Kd.R_mono HUZ.out (fun k hk he => ?_), HBZ.out⟩
    · have := HUZ.out.1 k he.symm
      have := HL.out
      omega
    · have := HVZ.out.1 k he.symm
      have := HL.out
      omega
set_option maxHeartbeats 1000000 in
theorem push_bad {Am Af : Option Addr} {cm cf : Nat} {mix fifo : List Int} {limit slot draw : Int} (w : World) (hm : (Kd.int .i64).C w Am mix.length mix) (hcm : mix.length ≤ cm) (hf : (Kd.int .i64).C w Af fifo.length fifo) (hcf : fifo.length ≤ cf) (hl : mix.length ≤ 1048576) (hl2 : fifo.length ≤ 1048576) (hg : ¬ (GoodW mix fifo limit ∧ 0 ≤ slot)) :
    Calls Try.prog 11 #[.agg #[.slice Am mix.length cm, .slice Af fifo.length cf, .int .i64 limit], .int .i64 slot, .int .i64 draw] w fun e w' => e = .returned (.tuple #[.agg #[.slice none 0 0, .slice none 0 0, .int .i64 0], .int .i64 (-1)]) ∧ Below w.heap.size w w' := by
  obtain ⟨b, hb, hbi⟩ := impl_good_is mix fifo limit hl hl2 _ (Nat.le_refl _)
  have HG := Lib.hid hb
  have HM := Lib.hid hm
  have HF := Lib.hid hf
  have key : b = false ∨ (b = true ∧ slot < 0) := by
    cases b
    · exact .inl rfl
    · by_cases h0 : slot < 0
      · exact .inr ⟨rfl, h0⟩
      · exact absurd ⟨hbi.1 rfl, by omega⟩ hg
  clear hb hbi hg hm hf
  rcases key with rfl | ⟨rfl, h0⟩
  all_goals
    go_enter Try.func11, Try.ntmps11
    go_wp2_with (go_at_call 37; refine (impl_good.calls _ Am cm mix Af cf fifo limit _ _ (Kd.C_alloc (Kd.C_alloc HM.out _) _) hcm (Kd.C_alloc (Kd.C_alloc HF.out _) _) hcf HG.out).mono ?_; rintro e w1 ⟨rfl, hw1⟩; have hr : w1.heap[w.heap.size + 1]? = some (.cells #[.slice none 0 0, .slice none 0 0, .int .i64 0] 26 (0, 0)) := (hw1.block _ (by simp)).trans (alloc_at (w.alloc _) _ (by simp)); have f0 := blk_frozen hr 0; have f1 := blk_frozen hr 1; have f2 := blk_frozen hr 2; have r0 : w1.cell? ⟨w.heap.size + 1, 0, none⟩ = some (.slice none 0 0) := blk_cell hr 0; have r1 : w1.cell? ⟨w.heap.size + 1, 1, none⟩ = some (.slice none 0 0) := blk_cell hr 1; have r2 : w1.cell? ⟨w.heap.size + 1, 2, none⟩ = some (.int .i64 0) := blk_cell hr 2; have hB1 : Below w.heap.size w w1 := (balloc (balloc (Below.refl _ _) _) _).trans (hw1.mono (by simp; omega)); have HB1 := Lib.hid hB1; have HRR := Lib.hid hr; clear hw1 hB1 hr)
    have hb3 := blk_set (blk_set (blk_set HRR.out 0 (.slice none 0 0)) 1 (.slice none 0 0)) 2 (.int .i64 0)
    have z0 := blk_cell hb3 0
    have z1 := blk_cell hb3 1
    have z2 := blk_cell hb3 2
    simp only [Array.setIfInBounds, List.getElem?_toArray] at z0 z1 z2
    refine bodyPost_ret (v := .tuple #[.agg #[.slice none 0 0, .slice none 0 0, .int .i64 0], .int .i64 (-1)]) (by simp [results, Try.results11, go_sem, z0, z1, z2]) rfl ⟨rfl, ((HB1.out.setCell (p := ⟨w.heap.size + 1, 0, none⟩) (by simp) _).setCell (p := ⟨w.heap.size + 1, 1, none⟩) (by simp) _).setCell (p := ⟨w.heap.size + 1, 2, none⟩) (by simp) _⟩
end Go.Proofs.Ytklobepkihdbkaa.WpJ
