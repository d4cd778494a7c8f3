/- The program's quarantine: the stages' pushes. -/
import Derived.Test.YtklobepkihdbkaaWpG
import Derived.WalkKit
import Derived.WalkLawsBesides
import Derived.WalkSpells
import Derived.Lib.Hide
import Derived.IntWalk
import Derived.Deep.QuietTactic
import Derived.BigQuiet
namespace Go.Proofs.Ytklobepkihdbkaa.WpI
open Go.RowKit Go.Proofs.YtklobepkihdbkaaW.PrintWords Go.Proofs.YtklobepkihdbkaaW.PrintLast Go.Proofs.YtklobepkihdbkaaW.PrintMore Wp WpG
set_option linter.unusedVariables false
set_option linter.unusedSimpArgs false
theorem ret_int {k : IntKind} {a b : Int} (h : a = b) : Ending.returned (.int k a) = Ending.returned (.int k b) := by rw [h]
theorem modulo_is (n m : Int) (w : World) (h0 : 1 ≤ m) (h1 : m ≤ 1048576) :
    Calls Try.prog 141 #[.int .i64 n, .int .i64 m] w fun e w' => e = .returned (.int .i64 (n % m)) ∧ w = w' := by
  have hm : (m == 0) = false := by rw [beq_eq_false_iff_ne]; omega
  have hlo : -m < n.tmod m := Int.lt_tmod_of_pos n (by omega)
  have hhi : n.tmod m < m := Int.tmod_lt_of_pos n (by omega)
  have key : (n.tmod m + m) % m = n % m := by
    rw [Int.add_emod_right]
    have := Int.tmod_add_mul_tdiv n m
    have e : n.tmod m = n - m * (n.tdiv m) := by omega
    rw [e, Int.sub_mul_emod_self_left]
  have HK := Lib.hid key
  clear key
  have h9 : ¬ m = 0 := by omega
  have ew : IntKind.i64.wrap (n.tmod m) = n.tmod m := IntWalk.i64_in _ (by omega)
  have ew2 : IntKind.i64.wrap (n.tmod m + m) = n.tmod m + m := IntWalk.i64_in _ (by omega)
  go_enter Try.func141, Try.ntmps141
  go_wp2
  go_ret
  exact ⟨ret_int HK.out, rfl⟩
set_option maxRecDepth 100000 in
set_option maxHeartbeats 1000000 in
theorem mix_push {base g : Nat} {ok : Nat → Prop} {mix : List Int} {v : Value} (w0 w : World) (slot draw : Int) (hg : w.heap[g]? = some (.cells #[v] 70 (0, 0))) (hR : (Kd.int .i64).R 3 w base ok v mix) (hok : ∀ k, ok k → k ≠ g) (hl : mix.length ≤ 16) (hB : Below base w0 w) :
    Calls Try.prog 139 #[.pointer (some ⟨g, 0, none⟩), .int .i64 slot, .int .i64 draw] w fun e w' => e = .returned (.int .i64 (mixOut mix slot draw)) ∧ w'.heap[g]? = some (.cells #[v] 70 (0, 0)) ∧ (Kd.int .i64).R 3 w' base ok v (mixed mix slot draw) ∧ Below base w0 w' ∧ Kept w w' ok := by
  have hc := blk_cell hg 0
  have hf := blk_frozen hg 0
  simp only [List.getElem?_toArray, List.getElem?_cons_zero] at hc
  have HG := Lib.hid hg
  have HR := Lib.hid hR
  have HO := Lib.hid hok
  have HB := Lib.hid hB
  clear hg hR hok hB
  by_cases h0 : mix = []
  · subst h0
    obtain ⟨Am, cm, rfl⟩ := Kd.R_slice HR.out
    go_enter Try.func139, Try.ntmps139
    go_wp2
    go_ret
    exact ⟨rfl, HG.out, HR.out, HB.out, Kept.refl _ _⟩
  · have hlen : 0 < mix.length := List.length_pos_iff.2 h0
    obtain ⟨b, cm, rfl, hb0, hb1, cells, hcells⟩ := Kd.R_form HR.out hlen
    have hbg : b ≠ g := HO.out b (HR.out.1 b rfl)
    have hlt := mixAt_lt h0 draw
    obtain ⟨k7, k8⟩ := Kd.R_cell 0 HR.out (mixAt mix draw : Int) (by omega) (by omega)
    rw [Int.toNat_natCast] at k7 k8
    have hd : draw % (mix.length : Int) = ((mixAt mix draw : Nat) : Int) := by
      unfold mixAt
      have := Int.emod_nonneg draw (b := (mix.length : Int)) (by omega)
      omega
    have he : mixOut mix slot draw = rdOf 0 mix ((mixAt mix draw : Nat) : Int) := by
      unfold mixOut rdOf
      rw [if_neg h0, Int.toNat_natCast]
    obtain ⟨q, hq⟩ : ∃ q, mixAt mix draw = q := ⟨_, rfl⟩
    obtain ⟨x, hx⟩ : ∃ x, rdOf 0 mix ((mixAt mix draw : Nat) : Int) = x := ⟨_, rfl⟩
    rw [hx] at he k7
    rw [hq] at hd k7 k8 hlt
    have hput := Kd.R_put HR.out (q : Int) slot
    rw [Int.toNat_natCast] at hput
    have HP := Lib.hid hput
    have HE := Lib.hid he
    have HQ := Lib.hid hq
    have HD := Lib.hid hd
    have hz : (mix.length == 0) = false := by rw [beq_eq_false_iff_ne]; omega
    have hz2 : ((mix.length : Int) == 0) = false := by rw [beq_eq_false_iff_ne]; omega
    clear hx he hq hput hd hcells h0
    go_enter Try.func139, Try.ntmps139
    go_wp2_with (go_at_call 141; refine (modulo_is draw (mix.length : Int) _ (by omega) (by omega)).mono ?_; rintro e w' ⟨rfl, rfl⟩; rw [HD.out])
    go_ret
    exact ⟨ret_int HE.out.symm, blk_far HG.out (p := ⟨b, q, none⟩) (Ne.symm hbg) _, by unfold mixed; rw [HQ.out]; exact HP.out.1, HB.out.setCell (p := ⟨b, q, none⟩) hb0 _, (Kept.refl _ _).setCell (p := ⟨b, q, none⟩) (.inl (HR.out.1 b rfl)) _⟩
def PutPost (base g : Nat) (ok : Nat → Prop) (xs : List Int) (lim : Value) (w0 w : World) (e : Ending) (w' : World) : Prop :=
  e = .returned (.tuple #[]) ∧ ∃ v', w'.heap[g]? = some (.cells #[v', lim] 73 (0, 0)) ∧ (Kd.int .i64).R 3 w' base ok v' xs ∧ Below base w0 w' ∧ Kept w w' (fun k => k = g ∨ ok k)
set_option maxRecDepth 100000 in
set_option maxHeartbeats 1000000 in
theorem row_put {base g : Nat} {ok : Nat → Prop} {fifo : List Int} {v lim : Value} (w0 w : World) (slot : Int) (hg : w.heap[g]? = some (.cells #[v, lim] 73 (0, 0))) (hR : (Kd.int .i64).R 3 w base ok v fifo) (hok : ∀ k, ok k → k ≠ g) (hfr : ∀ k, w.heap.size ≤ k → ok k) (hl : fifo.length ≤ 1000) (hbg : base ≤ g) (hB : Below base w0 w) :
    Calls Try.prog 140 #[.pointer (some ⟨g, 0, none⟩), .int .i64 slot] w (PutPost base g ok (fifo ++ [slot]) lim w0 w) := by
  have hc := blk_cell hg 0
  simp only [List.getElem?_toArray, List.getElem?_cons_zero] at hc
  have hgl := blk_lt hg
  have hbs : base ≤ w.heap.size := by omega
  obtain ⟨all, hall⟩ : ∃ all, fifo ++ [slot] = all := ⟨_, rfl⟩
  rw [hall]
  have HA := Lib.hid hall
  clear hall
  have HG := Lib.hid hg
  have HR := Lib.hid hR
  have HO := Lib.hid hok
  have HF := Lib.hid hfr
  have HB := Lib.hid hB
  clear hg hR hok hB hfr
  go_enter Try.func140, Try.ntmps140
  go_wp2_with ((with_reducible refine gate_dst (N := 11) rfl ?_); at_builtin; refine Kd.R_append (Kd.int .i64) (w0 := w0) base rfl (.tmp 8) (.tmp 10) 22 3 (.int .i64 0) 8 rfl Try.underlying22 (by kernel_rfl) rfl (by decide) (by omega) v fifo slot [.int .i64 slot] ok (fun _ => False) rfl rfl ?aP (fun _ hk => hk.elim) ?aF ?aO ?aB ?aS ?aL ?_; (case aP => exact rfl); (case aF => exact HF.out); (case aO => exact HR.out); (case aB => exact HB.out); (case aS => exact hbs); (case aL => omega); intro v1 w1 hR1 hB1 hg1 hat1; rw [HA.out] at hR1; obtain ⟨A1, c1, rfl, hc1, hC1⟩ := Kd.R_reads hR1; clear hC1; have hgw1 := blk_grown HG.out hg1 (Kd.R_away HR.out HO.out); have hcw1 := blk_cell hgw1 0; have hfw1 := blk_frozen hgw1 0; simp only [List.getElem?_toArray, List.getElem?_cons_zero] at hcw1; have HG1 := Lib.hid hgw1; have HR1 := Lib.hid hR1; have HB1 := Lib.hid hB1; have hK1 : Kept w w1 (fun k => k = g ∨ ok k) := Kept.of_grown hg1 (Kept.refl _ _) (fun k hk => .inl (.inr (HR.out.1 k hk))); have HK1 := Lib.hid hK1; clear hgw1 hR1 hB1 hg1 hat1 hK1)
  go_end0
  exact ⟨rfl, _, blk_set HG1.out 0 _, Kd.R_far HR1.out (p := ⟨g, 0, none⟩) HO.out _, HB1.out.setCell (p := ⟨g, 0, none⟩) hbg _, HK1.out.setCell (p := ⟨g, 0, none⟩) (.inl (.inl rfl)) _⟩
theorem tail_C {w w' : World} {b : Nat} {all : List Int} (hl : 0 < all.length) (h : (Kd.int .i64).C w (some ⟨b, 0, none⟩) all.length all) (hw : w'.heap = w.heap := by rfl) : (Kd.int .i64).C w' (some ⟨b, 1, none⟩) (all.drop 1).length (all.drop 1) := by
  have h1 := (Kd.reads_of_C (d := (0 : Int)) h).drop_ (c := all.length + 1) 1 (by omega) (by omega)
  rw [if_neg (by omega)] at h1
  have e : (some (⟨b, 0, none⟩ : Addr)).map (·.add 1) = some ⟨b, 1, none⟩ := rfl
  rw [e] at h1
  rw [List.length_drop]
  have h2 := Kd.C_of_reads (h1 := fun _ => rfl) h1
  refine ⟨h2.1, h2.2.1, fun hn => ?_⟩
  obtain ⟨ad, ea, hc⟩ := h2.2.2 hn
  refine ⟨ad, ea, fun j p hj => ?_⟩
  obtain ⟨cs, h3, h4, h5⟩ := hc j p hj
  exact ⟨cs, h3, h4, fun i u hu => by have := h5 i u hu; unfold World.cell? at this ⊢; rw [hw]; exact this⟩
def LinePost (base g : Nat) (ok : Nat → Prop) (ys : List Int) (out : Int) (lim : Value) (w0 w : World) (e : Ending) (w' : World) : Prop :=
  e = .returned (.int .i64 out) ∧ ∃ v', w'.heap[g]? = some (.cells #[v', lim] 73 (0, 0)) ∧ (∃ A c, v' = .slice A ys.length c ∧ ys.length ≤ c ∧ (Kd.int .i64).C w' A ys.length ys ∧ ∀ k, v'.ownBlock = some k → ok k) ∧ Below base w0 w' ∧ Kept w w' (fun k => k = g ∨ ok k)
set_option maxRecDepth 100000 in
set_option maxHeartbeats 2000000 in
theorem line_push {base g : Nat} {ok : Nat → Prop} {fifo : List Int} {v : Value} {limit : Int} (w0 w : World) (slot draw : Int) (hg : w.heap[g]? = some (.cells #[v, .int .i64 limit] 73 (0, 0))) (hR : (Kd.int .i64).R 3 w base ok v fifo) (hok : ∀ k, ok k → k ≠ g) (hfr : ∀ k, w.heap.size ≤ k → ok k) (hl : fifo.length ≤ 100) (hbg : base ≤ g) (hB : Below base w0 w) (hs : 0 ≤ slot) (hlim1 : 1 ≤ limit) (hlim : limit ≤ 100) :
    Calls Try.prog 142 #[.pointer (some ⟨g, 0, none⟩), .int .i64 slot, .int .i64 draw] w (LinePost base g ok (fifoTo fifo limit slot) (fifoOut fifo limit slot) (.int .i64 limit) w0 w) := by
  have HP := Lib.hid (row_put w0 w slot hg hR hok hfr (by omega) hbg hB)
  have HO := Lib.hid hok
  clear hg hR hfr hB
  have e1 : fifoTo fifo limit slot = if (fifo.length : Int) + 1 ≤ limit then fifo ++ [slot] else (fifo ++ [slot]).tail := by unfold fifoTo; rw [if_neg (by omega)]
  have e2 : fifoOut fifo limit slot = if (fifo.length : Int) + 1 ≤ limit then -1 else (fifo ++ [slot]).headD 0 := by unfold fifoOut; rw [if_neg (by omega)]
  obtain ⟨all, hall⟩ : ∃ all, fifo ++ [slot] = all := ⟨_, rfl⟩
  have hlen : all.length = fifo.length + 1 := by rw [← hall]; simp
  rw [hall] at e1 e2 HP
  by_cases hle : (fifo.length : Int) + 1 ≤ limit
  · rw [if_pos hle] at e1 e2
    rw [e1, e2]
    have hb : decide ((all.length : Int) ≤ limit) = true := decide_eq_true (by omega)
    have HL := Lib.hid hlen
    clear e1 e2 hall hlen
    go_enter Try.func142, Try.ntmps142
    go_wp2_with (go_at_call 140; refine HP.out.mono ?_; rintro e w1 ⟨rfl, v1, hg1, hR1, hB1, hK1⟩; obtain ⟨A1, c1, rfl, hc1, hC1⟩ := Kd.R_reads hR1; have hc0 := blk_cell hg1 0; have hc2 := blk_cell hg1 1; simp only [List.getElem?_toArray, List.getElem?_cons_zero, List.getElem?_cons_succ] at hc0 hc2; have HG1 := Lib.hid hg1; have HR1 := Lib.hid hR1; have HC1 := Lib.hid hC1; have HB1 := Lib.hid hB1; have HK1 := Lib.hid hK1; clear hg1 hR1 hC1 hB1 hK1)
    go_quiet (fail)
    go_wp2
    go_ret
    exact ⟨rfl, _, HG1.out, ⟨A1, c1, rfl, hc1, Kd.C_drewN HC1.out _, HR1.out.1⟩, pw_below_drewN HB1.out _, HK1.out.drewN _⟩
  · rw [if_neg hle] at e1 e2
    rw [e1, e2]
    have hb : decide ((all.length : Int) ≤ limit) = false := decide_eq_false (by omega)
    have hd : all.tail = all.drop 1 := by simp
    have hh : all.headD 0 = rdOf 0 all ((0 : Nat) : Int) := by
      unfold rdOf
      cases all with
      | nil => simp at hlen
      | cons y ys => rfl
    rw [hd, hh]
    obtain ⟨i0, hi0, hz0⟩ : ∃ i0, Try.prog.info? 3 = some i0 ∧ i0.size = 1 := by
      have h : (Try.prog.info? 3).map (·.size) = some 1 := by kernel_rfl
      exact Option.map_eq_some_iff.1 h
    have hlt : 0 < all.length := by omega
    have hl1 : (all.drop 1).length = all.length - 1 := by simp
    obtain ⟨x, hx⟩ : ∃ x, rdOf 0 all ((0 : Nat) : Int) = x := ⟨_, rfl⟩
    rw [hx]
    have HX := Lib.hid hx
    have HL := Lib.hid hlen
    have HL1 := Lib.hid hl1
    clear e1 e2 hall hlen hd hh hx hl1
    go_enter Try.func142, Try.ntmps142
    go_wp2_with (go_at_call 140; refine HP.out.mono ?_; rintro e w1 ⟨rfl, v1, hg1, hR1, hB1, hK1⟩; obtain ⟨b, c1, rfl, hb0, hb1, cells, hcells⟩ := Kd.R_form hR1 hlt; clear hcells; obtain ⟨k7, k8⟩ := Kd.R_cell 0 hR1 ((0 : Nat) : Int) (by omega) (by omega); rw [HX.out, Int.toNat_natCast] at k7; have hc0 := blk_cell hg1 0; have hc2 := blk_cell hg1 1; have hf0 := blk_frozen hg1 0; simp only [List.getElem?_toArray, List.getElem?_cons_zero, List.getElem?_cons_succ] at hc0 hc2; have hne : ¬ c1 = 1 := (by have := (Kd.R_reads' hR1).2.1; have := HL.out; omega); have hcut := cut_from (P := Try.prog) 22 3 .i64 Try.underlying22 hi0 1 hz0 (some ⟨b, 0, none⟩) all.length c1 1 (by omega) (by omega); have HG1 := Lib.hid hg1; have HR1 := Lib.hid hR1; have HB1 := Lib.hid hB1; have HK1 := Lib.hid hK1; clear hg1 hR1 hB1 hK1)
    go_quiet (fail)
    go_wp2
    go_ret
    exact ⟨rfl, _, blk_set (w := w1.drewN _) HG1.out 0 _, ⟨some ⟨b, 1, none⟩, c1 - 1, by rw [List.length_drop], by rw [List.length_drop]; have := (Kd.R_reads' HR1.out).2.1; omega, tail_C hlt (Kd.R_reads' (Kd.R_far (Kd.R_drewN HR1.out _) (p := ⟨g, 0, none⟩) HO.out _)).2.2, fun k hk => HR1.out.1 k hk⟩, (pw_below_drewN HB1.out _).setCell (p := ⟨g, 0, none⟩) hbg _, (HK1.out.drewN _).setCell (p := ⟨g, 0, none⟩) (.inl (.inl rfl)) _⟩
end Go.Proofs.Ytklobepkihdbkaa.WpI
