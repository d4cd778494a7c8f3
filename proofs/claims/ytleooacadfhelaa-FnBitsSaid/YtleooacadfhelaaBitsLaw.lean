/- The walk of the law on bits: it returns true. No condition. -/
import Derived.Test.YtleooacadfhelaaBsP
import Derived.Test.YtleooacadfhelaaDrb
import Derived.Test.YtleooacadfhelaaBitHasLaw
import Derived.OpenShut
namespace Go.Proofs.Ytleooacadfhelaa.BitsL
open Go.RowKit Go.Proofs.Ytleooacadfhelaa.PFnBits Go.Proofs.YtleooacadfhelaaW.PrintWords Go.Proofs.YtleooacadfhelaaW.PrintLast Go.Proofs.YtleooacadfhelaaW.PrintMore BitF Rd BsF BsP Iter
set_option linter.unusedVariables false
set_option linter.unusedSimpArgs false
def Drawn (w : World) (e : Ending) (w' : World) : Prop := ∃ (v : Value) (n i : Int) (on : Bool) (l : List Int), e = .returned (.tuple #[v, .int .i64 n, .int .i64 i, .bool on]) ∧ (-1 ≤ n ∧ n ≤ 5000) ∧ (-100000 ≤ i ∧ i ≤ 100000) ∧ (Words l ∧ l.length ≤ 100) ∧ Below w.heap.size w w' ∧ Kd.R (Kd.int .u64) 39 w' w.heap.size (fun _ => True) v l
set_option maxRecDepth 100000 in
set_option maxHeartbeats 4000000 in
theorem draw_any (A : Option Addr) (c : Nat) (s : List Int) (w : World) (hC : Kd.C (Kd.int .u8) w A s.length s) (hs : Bytes s) (hl : s.length ≤ 1048576) :
    Calls Try.prog 23 #[.slice A s.length c] w (Drawn w) := by
  have HS := Lib.hid hs
  have HC := Lib.hid hC
  clear hs hC
  go_enter Try.func23, Try.ntmps23
  go_upto_region 2 with fail
  have hI0 : IsRd w (w.alloc (.cells #[.slice A s.length c, .int .i64 0] 50)) w.heap.size s := ⟨0, ⟨by omega, by omega⟩, IsS50.new w w A c s 0 (Below.refl _ _) HC.out⟩
  have hB0 : Below w.heap.size w (w.alloc (.cells #[.slice A s.length c, .int .i64 0] 50)) := below_alloc (Below.refl _ _) _
  have HI := Lib.hid hI0
  have HB := Lib.hid hB0
  clear hI0 hB0
  go_upto_region 3 with (go_at_call 29; refine (next_any HS.out hl HI.out HB.out).mono ?_; rintro e w1 ⟨k, rfl, hk, hI, hB, hkb⟩; clear HI HB; have HI := Lib.hid hI; have HB := Lib.hid hB; clear hI hB hkb)
  go_upto_region 4 with (go_at_call 30; refine (Drb.bitmap_any HS.out hl HI.out HB.out).mono ?_; rintro e w2 ⟨vb, n, l, rfl, hn, hw, hI, hB, hR⟩; clear HI HB; have HI := Lib.hid hI; have HB := Lib.hid hB; have HR := Lib.hid hR; have HW := Lib.hid hw; clear hI hB hR hw)
  go_upto_region 5 with (go_at_call 29; refine (next_any HS.out hl HI.out HB.out).mono ?_; rintro e w3 ⟨i, rfl, hi, hI, hB, hkb⟩; have hR := Kd.R_keep HR.out hkb (fun _ h => h); clear HI HB HR; have HI := Lib.hid hI; have HB := Lib.hid hB; have HR := Lib.hid hR; clear hI hB hkb hR)
  by_cases h1 : 0 < n
  · by_cases h2 : 0 < k % 8
    · have h3 : 0 ≤ (i * 41 + k) % n := Int.emod_nonneg _ (by omega)
      have h4 : (i * 41 + k) % n < n := Int.emod_lt_of_pos _ h1
      go_wp2
      exact bodyPost_ret (v := .tuple #[vb, .int .i64 n, .int .i64 ((i * 41 + k) % n - k % 8 / 7), .bool (k % 2 == 1)]) (by simp [results, Try.results23, go_sem]) rfl ⟨_, _, _, _, l, rfl, hn, ⟨by omega, by omega⟩, HW.out, HB.out, Kd.R_mono HR.out (fun _ _ => trivial)⟩
    · have h2b : decide (0 < k % 8) = false := decide_eq_false h2
      go_wp2
      exact bodyPost_ret (v := .tuple #[vb, .int .i64 n, .int .i64 (i - k % 8 / 7), .bool (k % 2 == 1)]) (by simp [results, Try.results23, go_sem]) rfl ⟨_, _, _, _, l, rfl, hn, ⟨by omega, by omega⟩, HW.out, HB.out, Kd.R_mono HR.out (fun _ _ => trivial)⟩
  · have h1b : decide (0 < n) = false := decide_eq_false h1
    go_wp2
    exact bodyPost_ret (v := .tuple #[vb, .int .i64 n, .int .i64 (i - k % 8 / 7), .bool (k % 2 == 1)]) (by simp [results, Try.results23, go_sem]) rfl ⟨_, _, _, _, l, rfl, hn, ⟨by omega, by omega⟩, HW.out, HB.out, Kd.R_mono HR.out (fun _ _ => trivial)⟩
theorem bad_of {l : List Int} (hl : Words l) {n i : Int} (hn : l.length ≤ 1048576) (hnb : -9223372036854775808 ≤ n ∧ n ≤ 9223372036854775807) (h : ¬ (GoodB l n ∧ 0 ≤ i ∧ i < n)) : ∃ g, PFnExactBitsHas.impl_bitmap_uint64_good.f l n = some g ∧ (g = false ∨ i < 0 ∨ n ≤ i) := by
  by_cases hs : Shape l n
  · obtain ⟨g, hf, hi⟩ := good_is hl hs
    refine ⟨g, hf, ?_⟩
    cases g
    · exact .inl rfl
    · by_cases h0 : i < 0
      · exact .inr (.inl h0)
      · by_cases h1 : i < n
        · exact absurd ⟨hi.1 rfl, by omega, h1⟩ h
        · exact .inr (.inr (by omega))
  · exact ⟨false, bad_shape hs hn hnb, .inl rfl⟩
theorem hasI {A : Option Addr} {c : Nat} {l : List Int} {n j : Nat} {r : Bool} {W : World} (hC : Kd.C (Kd.int .u64) W A l.length l) (hc : l.length ≤ c) (hl : Words l) (hn : l.length ≤ 1048576) (hg : GoodB l n) (hj : j < n) (hr : at_ l j = r) :
    Calls Try.prog 11 #[.slice A l.length c, .int .i64 n, .int .i64 j] W fun e w' => e = .returned (.bool r) ∧ Below W.heap.size W w' :=
  BitHasL.impl_is A c l hl n j hn r W hC hc (by have := hg.1.2.1; omega) (.inl ⟨hg, by omega, by omega, by rw [Int.toNat_natCast]; exact hr.symm⟩)
theorem hasS {A : Option Addr} {c : Nat} {l : List Int} {n j : Nat} {r : Bool} {W : World} (hC : Kd.C (Kd.int .u64) W A l.length l) (hc : l.length ≤ c) (hl : Words l) (hg : GoodB l n) (hj : j < n) (hr : at_ l j = r) :
    Calls Try.prog 9 #[.slice A l.length c, .int .i64 n, .int .i64 j] W fun e w' => e = .returned (.bool r) ∧ Below W.heap.size W w' :=
  PFnExactBitsHas.spec_BitsHas.calls _ A c l n j r W hC hc (by
    have := BitHasL.spec_yes hl hg (i := (j : Int)) (by omega) (by omega) (64 * l.length + 2) (Nat.le_refl _)
    rw [Int.toNat_natCast, hr] at this
    exact this)
theorem countI {A : Option Addr} {c : Nat} {l : List Int} {n : Nat} {r : Int} {W : World} (hC : Kd.C (Kd.int .u64) W A l.length l) (hc : l.length ≤ c) (hl : Words l) (hg : GoodB l n) (hr : (n : Int) - (frs l n (64 * l.length)).length = r) :
    Calls Try.prog 14 #[.slice A l.length c, .int .i64 n] W fun e w' => e = .returned (.int .i64 r) ∧ Below W.heap.size W w' := by
  subst hr
  exact callsIn_wide.1 (Cnt.count_in A c l n W hC hc hl hg)
theorem countS {A : Option Addr} {c : Nat} {l : List Int} {n : Nat} {r : Int} {W : World} (hC : Kd.C (Kd.int .u64) W A l.length l) (hc : l.length ≤ c) (hl : Words l) (hg : GoodB l n) (hr : (n : Int) - (frs l n (64 * l.length)).length = r) :
    Calls Try.prog 13 #[.slice A l.length c, .int .i64 n] W fun e w' => e = .returned (.int .i64 r) ∧ Below W.heap.size W w' := by
  subst hr
  exact spec_BitsCount.calls _ A c l n _ W hC hc (count_yes hl hg _ (Nat.le_refl _))
theorem scanI {A : Option Addr} {c : Nat} {l : List Int} {n i : Nat} {r : Int} {W : World} (hC : Kd.C (Kd.int .u64) W A l.length l) (hc : l.length ≤ c) (hl : Words l) (hg : GoodB l n) (hi : i < n) (hr : Scn.ans l n i = r) :
    Calls Try.prog 16 #[.slice A l.length c, .int .i64 n, .int .i64 i] W fun e w' => e = .returned (.int .i64 r) ∧ Below W.heap.size W w' := by
  subst hr
  exact callsIn_wide.1 (Scn.scan_good A c l n i W hC hc hl hg (by omega) (by omega))
theorem freeI {A : Option Addr} {c : Nat} {l : List Int} {n q : Nat} {r : Int} {W : World} (hC : Kd.C (Kd.int .u64) W A l.length l) (hc : l.length ≤ c) (hl : Words l) (hg : GoodB l n) (hq : (q : Int) ≤ 9223372036854775807) (hr : (frs l n (64 * l.length))[q]?.getD (-1) = r) :
    Calls Try.prog 18 #[.slice A l.length c, .int .i64 n, .int .i64 q] W fun e w' => e = .returned (.int .i64 r) ∧ Below W.heap.size W w' := by
  subst hr
  exact callsIn_wide.1 (Fre.free_good A c l n q W hC hc hl hg hq)
theorem ah_step {l : List Int} {n i j : Nat} (hi : i < n) : (frs l n (min (j + 1) i)).length = (frs l n (min j i)).length + if j < i ∧ at_ l j = false then 1 else 0 := by
  by_cases h : j < i
  · rw [Nat.min_eq_left (by omega), Nat.min_eq_left (by omega)]
    cases hc : isFree l n j with
    | true =>
      have := free_iff.1 hc
      rw [frs_yes hc, List.length_append, if_pos ⟨h, this.2⟩]
      rfl
    | false =>
      rw [frs_no hc, if_neg (fun h2 => by rw [free_iff.2 ⟨by omega, h2.2⟩] at hc; cases hc)]
      rfl
  · rw [Nat.min_eq_right (by omega), Nat.min_eq_right (by omega), if_neg (fun h2 => h h2.1)]
    rfl
set_option maxRecDepth 100000 in
set_option maxHeartbeats 8000000 in
theorem bits_law {w : World} (A : Option Addr) (c : Nat) (s : List Int) (hC : Kd.C (Kd.int .u8) w A s.length s) (hc : s.length ≤ c) (hwf : ∀ x ∈ s, (Lit.int .u8 x).wf = true) (hy : s.length * 1 ≤ 140737488351232) :
    Calls Try.prog 8 #[.slice A s.length c] w fun e w' => e = .returned (.bool true) ∧ Below w.heap.size w w' := by
  by_cases hbig : 1048576 < s.length
  · go_enter Try.func8, Try.ntmps8
    go_wp2
    go_ret
    exact ⟨rfl, Below.refl _ _⟩
  · have hn : s.length ≤ 1048576 := by omega
    have hS : Bytes s := fun x hx => bounds_u8 (hwf x hx)
    have HC := Lib.hid hC
    have HS := Lib.hid hS
    clear hC hwf hS hbig hy
    go_enter Try.func8, Try.ntmps8
    go_upto_region 4 with (go_at_call 23; refine (draw_any A c s _ HC.out HS.out hn).mono ?_; rintro e w1 ⟨vb, n, i, on0, l, rfl, hnb, hib, ⟨hlw, hll⟩, hw1, hR1⟩)
    obtain ⟨Ab, cb, rfl, hcb, hCb⟩ := Kd.R_reads hR1
    clear hR1
    have HL := Lib.hid hlw
    have HCb := Lib.hid hCb
    have HB1 := Lib.hid hw1
    clear hlw hCb hw1
    by_cases hg : GoodB l n ∧ 0 ≤ i ∧ i < n
    · obtain ⟨hg, hi0, hin⟩ := hg
      obtain ⟨n, rfl⟩ := Int.eq_ofNat_of_zero_le hg.1.1
      obtain ⟨i, rfl⟩ := Int.eq_ofNat_of_zero_le hi0
      have hin' : i < n := by omega
      have hn4 : n ≤ 4096 := by have := hg.1.2.1; omega
      obtain ⟨cf, q, x, k, hT⟩ := three HL.out hg hin'
      obtain ⟨ons, hons⟩ : ∃ x, Put.putw l i true = x := ⟨_, rfl⟩
      rw [hons] at hT
      obtain ⟨offs, hoffs⟩ : ∃ x, Put.putw ons i false = x := ⟨_, rfl⟩
      rw [hoffs] at hT
      have hsp := spec_yes HL.out hg i (by omega) true _ (Nat.le_refl _)
      rw [show Put.putw l (i : Int) true = ons from hons] at hsp
      have hput := fun (W : World) hC => Put.put_good Ab cb l n i true W hC hcb HL.out hg hi0 hin
      rw [show Put.putw l (i : Int) true = ons from hons] at hput
      have T := Lib.hid hT
      have HP := Lib.hid hsp
      have HPUT := Lib.hid hput
      have hol : ons.length ≤ 100 := by rw [← hons]; unfold Put.putw; simp; exact hll
      clear hsp hput hons hoffs hg hi0 hin hT
      go_upto_region 5 with (go_at_call 20; refine (HPUT.out _ HCb.out).mono ?_; rintro e w2 ⟨v2, rfl, hR2, hw2⟩)
      obtain ⟨Ao, co, rfl, hco, hCo⟩ := Kd.R_reads hR2
      have HB2 := Lib.hid (Bits.bstep HB1.out hw2)
      have HCb2 := Lib.hid (Kd.C_below HCb.out hw2)
      have HCo2 := Lib.hid hCo
      clear hR2 hCo hw2 HB1 HCb HPUT
      go_upto_region 6 with (go_at_call 19; refine (spec_BitsPut.calls _ Ab cb l n i true _ _ _ HCb2.out hcb HP.out).mono ?_; rintro e w3 ⟨v3, rfl, hR3, hw3⟩)
      have HB3 := Lib.hid (Bits.bstep HB2.out hw3)
      have HCb3 := Lib.hid (Kd.C_below HCb2.out hw3)
      have HCo3 := Lib.hid (Kd.C_below HCo2.out hw3)
      clear hR3 hw3 HB2 HCb2 HCo2 HP
      have hput := fun (W : World) hC => Put.put_good Ao co ons n i false W hC hco T.out.w2 T.out.g2 (by omega) (by omega)
      rw [← T.out.p3] at hput
      go_upto_region 11 with (go_at_call 20; refine (hput _ HCo3.out).mono ?_; rintro e w6 ⟨v6, rfl, hR6, hw6⟩)
      clear hput
      obtain ⟨Af, cc, rfl, hcf, hCf⟩ := Kd.R_reads hR6
      have HB6 := Lib.hid (Bits.bstep HB3.out hw6)
      have HCb := Lib.hid (Kd.C_below HCb3.out hw6)
      have HCo := Lib.hid (Kd.C_below HCo3.out hw6)
      have HCf := Lib.hid hCf
      have HK := Lib.hid (Below.refl w6.heap.size w6)
      clear hR6 hw6 HB3 HCb3 HCo3 hCf
      have hfl : offs.length ≤ 100 := by have := T.out.g3.1.2.2; omega
      obtain ⟨hcf0, hcf1⟩ := T.out.cfb
      go_upto_region 13 with (first
        | (go_at_call_of 11 (Value.slice Ao ons.length co); refine (hasI (Kd.C_below HCo.out HK.out) hco T.out.w2 (by omega) T.out.g2 hin' T.out.o2).mono ?_; rintro e w7 ⟨rfl, hw7⟩; have hk := Bits.bstep HK.out hw7; clear HK; have HK := Lib.hid hk; clear hk hw7)
        | (go_at_call_of 11 (Value.slice Af offs.length cc); refine (hasI (Kd.C_below HCf.out HK.out) hcf T.out.w3 (by omega) T.out.g3 hin' T.out.o3).mono ?_; rintro e w7 ⟨rfl, hw7⟩; have hk := Bits.bstep HK.out hw7; clear HK; have HK := Lib.hid hk; clear hk hw7)
        | (go_at_call_of 14 (Value.slice Ao ons.length co); refine (countI (Kd.C_below HCo.out HK.out) hco T.out.w2 T.out.g2 T.out.c2).mono ?_; rintro e w7 ⟨rfl, hw7⟩; have hk := Bits.bstep HK.out hw7; clear HK; have HK := Lib.hid hk; clear hk hw7)
        | (go_at_call_of 14 (Value.slice Af offs.length cc); refine (countI (Kd.C_below HCf.out HK.out) hcf T.out.w3 T.out.g3 T.out.c3).mono ?_; rintro e w7 ⟨rfl, hw7⟩; have hk := Bits.bstep HK.out hw7; clear HK; have HK := Lib.hid hk; clear hk hw7))
      have hql : q ≤ i := by
        have := T.out.q1
        have := len_le l n i
        omega
      have hc1 := T.out.c1
      cases hat : at_ l i
      all_goals
        rw [hat] at hc1
        have HC1 := Lib.hid hc1
        have HAT := Lib.hid hat
        clear hc1 hat
        go_upto_block 0 with (first
          | (go_at_call_of 13 (Value.slice Ab l.length cb); refine (countS (Kd.C_below HCb.out HK.out) hcb T.out.w1 T.out.g1 HC1.out).mono ?_; rintro e w7 ⟨rfl, hw7⟩; have hk := Bits.bstep HK.out hw7; clear HK; have HK := Lib.hid hk; clear hk hw7)
          | (go_at_call_of 9 (Value.slice Ab l.length cb); refine (hasS (Kd.C_below HCb.out HK.out) hcb T.out.w1 T.out.g1 hin' HAT.out).mono ?_; rintro e w7 ⟨rfl, hw7⟩; have hk := Bits.bstep HK.out hw7; clear HK; have HK := Lib.hid hk; clear hk hw7)
          | (go_at_call_of 14 (Value.slice Ao ons.length co); refine (countI (Kd.C_below HCo.out HK.out) hco T.out.w2 T.out.g2 T.out.c2).mono ?_; rintro e w7 ⟨rfl, hw7⟩; have hk := Bits.bstep HK.out hw7; clear HK; have HK := Lib.hid hk; clear hk hw7)
          | (go_at_call_of 16 (Value.slice Af offs.length cc); refine (scanI (Kd.C_below HCf.out HK.out) hcf T.out.w3 T.out.g3 hin' T.out.s3).mono ?_; rintro e w7 ⟨rfl, hw7⟩; have hk := Bits.bstep HK.out hw7; clear HK; have HK := Lib.hid hk; clear hk hw7))
        go_wp2_with fail
        go_loopw [13, 14] (fun a j wr => ∃ jn : Nat, jn ≤ n ∧ j = .int .i64 jn ∧ a = .int .i64 ((frs l n (min jn i)).length : Nat) ∧ Hid (Below w6.heap.size w6 wr)) (fun _ j _ => n - (intOf j).toNat)
        case atStart => exact ⟨0, Nat.zero_le _, rfl, by simp [frs], HK⟩
        case round =>
          clear HK
          obtain ⟨jn, hjn, rfl, rfl, HK⟩ := hrel
          have hb0 := len_le l n (min jn i)
          by_cases hlt : jn < n
          · have hah := ah_step (l := l) (j := jn) hin'
            obtain ⟨a1, ha1⟩ : ∃ a1, (frs l n (min (jn + 1) i)).length = a1 := ⟨_, rfl⟩
            obtain ⟨a0, ha0⟩ : ∃ a0, (frs l n (min jn i)).length = a0 := ⟨_, rfl⟩
            rw [ha0] at hah hb0 ⊢
            rw [ha1] at hah
            by_cases hji : jn = i
            · rw [if_neg (by omega)] at hah
              have HAH := Lib.hid (ha1.trans hah)
              clear hah ha0 ha1
              have e1 : ((jn : Int) != (i : Int)) = false := by rw [hji]; simp
              have e2 : decide ((jn : Int) < (i : Int)) = false := decide_eq_false (by omega)
              have e3 : decide (jn < i) = false := decide_eq_false (by omega)
              clear hji
              go_wp2_with fail
              go_roundw
              case rel => exact ⟨jn + 1, by omega, by go_num, by first | (rw [HAH.out]; done) | (rw [HAH.out]; go_num), HK⟩
              case measure => simp [intOf]; omega
            · have e1 : ((jn : Int) != (i : Int)) = true := by rw [bne_iff_ne]; omega
              have h2 := T.out.a2 jn hji
              have h3 := T.out.a3 jn hji
              clear hji
              cases hr : at_ l jn
              all_goals
                rw [hr] at h2 h3 hah
                have H1 := Lib.hid hr
                have H2 := Lib.hid h2
                have H3 := Lib.hid h3
                clear hr h2 h3
                by_cases hjl : jn < i
                · simp only [hjl, true_and, reduceIte, Bool.true_eq_false, Nat.add_zero] at hah
                  have HAH := Lib.hid (ha1.trans hah)
                  clear hah ha0 ha1
                  go_wp2_with (first | (go_at_call_of 11 (Value.slice Ao ons.length co); refine (hasI (Kd.C_below HCo.out HK.out) hco T.out.w2 (by omega) T.out.g2 hlt H2.out).mono ?_; rintro e w7 ⟨rfl, hw7⟩; have hk := Bits.bstep HK.out hw7; clear HK; have HK := Lib.hid hk; clear hk hw7) | (go_at_call_of 11 (Value.slice Af offs.length cc); refine (hasI (Kd.C_below HCf.out HK.out) hcf T.out.w3 (by omega) T.out.g3 hlt H3.out).mono ?_; rintro e w7 ⟨rfl, hw7⟩; have hk := Bits.bstep HK.out hw7; clear HK; have HK := Lib.hid hk; clear hk hw7) | (go_at_call_of 9 (Value.slice Ab l.length cb); refine (hasS (Kd.C_below HCb.out HK.out) hcb T.out.w1 T.out.g1 hlt H1.out).mono ?_; rintro e w7 ⟨rfl, hw7⟩; have hk := Bits.bstep HK.out hw7; clear HK; have HK := Lib.hid hk; clear hk hw7))
                  go_roundw
                  case rel => exact ⟨jn + 1, by omega, by go_num, by first | (rw [HAH.out]; done) | (rw [HAH.out]; go_num), HK⟩
                  case measure => simp [intOf]; omega
                · rw [if_neg (fun h => hjl h.1)] at hah
                  have HAH := Lib.hid (ha1.trans hah)
                  clear hah ha0 ha1
                  have e2 : decide ((jn : Int) < (i : Int)) = false := decide_eq_false (by omega)
                  have e3 : decide (jn < i) = false := decide_eq_false (by omega)
                  go_wp2_with (first | (go_at_call_of 11 (Value.slice Ao ons.length co); refine (hasI (Kd.C_below HCo.out HK.out) hco T.out.w2 (by omega) T.out.g2 hlt H2.out).mono ?_; rintro e w7 ⟨rfl, hw7⟩; have hk := Bits.bstep HK.out hw7; clear HK; have HK := Lib.hid hk; clear hk hw7) | (go_at_call_of 11 (Value.slice Af offs.length cc); refine (hasI (Kd.C_below HCf.out HK.out) hcf T.out.w3 (by omega) T.out.g3 hlt H3.out).mono ?_; rintro e w7 ⟨rfl, hw7⟩; have hk := Bits.bstep HK.out hw7; clear HK; have HK := Lib.hid hk; clear hk hw7) | (go_at_call_of 9 (Value.slice Ab l.length cb); refine (hasS (Kd.C_below HCb.out HK.out) hcb T.out.w1 T.out.g1 hlt H1.out).mono ?_; rintro e w7 ⟨rfl, hw7⟩; have hk := Bits.bstep HK.out hw7; clear HK; have HK := Lib.hid hk; clear hk hw7))
                  go_roundw
                  case rel => exact ⟨jn + 1, by omega, by go_num, by first | (rw [HAH.out]; done) | (rw [HAH.out]; go_num), HK⟩
                  case measure => simp [intOf]; omega
          · have hq : (frs l n (min jn i)).length = q := by
              rw [Nat.min_eq_right (by omega)]
              exact T.out.q1
            rw [hq]
            clear hq hb0
            have ex := T.out.x2
            rcases T.out.kk with ⟨hk1, hk2⟩ | ⟨m, hk1, hk2, hk3, hk4⟩
            · obtain rfl : cf = (n : Int) - 1 := by omega
              subst hk1
              have e9 : ((n : Int) - 1 + 1 == (n : Int)) = true := beq_iff_eq.2 (by omega)
              have e8 : (n : Int) - 1 + 1 = (n : Int) := by omega
              clear hk2
              go_wp2_with (first | (go_at_call_of 18 (Value.slice Af offs.length cc); refine (freeI (Kd.C_below HCf.out HK.out) hcf T.out.w3 T.out.g3 (by omega) T.out.f3).mono ?_; rintro e w7 ⟨rfl, hw7⟩; have hk := Bits.bstep HK.out hw7; clear HK; have HK := Lib.hid hk; clear hk hw7) | (go_at_call_of 18 (Value.slice Ao ons.length co); refine (freeI (Kd.C_below HCo.out HK.out) hco T.out.w2 T.out.g2 (by omega) T.out.f2).mono ?_; rintro e w7 ⟨rfl, hw7⟩; have hk := Bits.bstep HK.out hw7; clear HK; have HK := Lib.hid hk; clear hk hw7) | (go_at_call_of 16 (Value.slice Ao ons.length co); refine (scanI (Kd.C_below HCo.out HK.out) hco T.out.w2 T.out.g2 hin' T.out.k2).mono ?_; rintro e w7 ⟨rfl, hw7⟩; have hk := Bits.bstep HK.out hw7; clear HK; have HK := Lib.hid hk; clear hk hw7))
              go_ret
              exact ⟨rfl, HB6.out.trans (HK.out.mono HB6.out.size)⟩
            · subst hk1
              have e7 : ((m : Int) == -1) = false := by rw [beq_eq_false_iff_ne]; omega
              have e8 : (cf + 1 == (n : Int)) = false := by rw [beq_eq_false_iff_ne]; omega
              have e9 : decide ((m : Int) < 0) = false := decide_eq_false (by omega)
              have HM := Lib.hid hk3
              clear hk3
              go_wp2_with (first | (go_at_call_of 18 (Value.slice Af offs.length cc); refine (freeI (Kd.C_below HCf.out HK.out) hcf T.out.w3 T.out.g3 (by omega) T.out.f3).mono ?_; rintro e w7 ⟨rfl, hw7⟩; have hk := Bits.bstep HK.out hw7; clear HK; have HK := Lib.hid hk; clear hk hw7) | (go_at_call_of 18 (Value.slice Ao ons.length co); refine (freeI (Kd.C_below HCo.out HK.out) hco T.out.w2 T.out.g2 (by omega) T.out.f2).mono ?_; rintro e w7 ⟨rfl, hw7⟩; have hk := Bits.bstep HK.out hw7; clear HK; have HK := Lib.hid hk; clear hk hw7) | (go_at_call_of 16 (Value.slice Ao ons.length co); refine (scanI (Kd.C_below HCo.out HK.out) hco T.out.w2 T.out.g2 hin' T.out.k2).mono ?_; rintro e w7 ⟨rfl, hw7⟩; have hk := Bits.bstep HK.out hw7; clear HK; have HK := Lib.hid hk; clear hk hw7) | (go_at_call_of 9 (Value.slice Ao ons.length co); refine (hasS (Kd.C_below HCo.out HK.out) hco T.out.w2 T.out.g2 hk2 HM.out).mono ?_; rintro e w7 ⟨rfl, hw7⟩; have hk := Bits.bstep HK.out hw7; clear HK; have HK := Lib.hid hk; clear hk hw7))
              go_ret
              exact ⟨rfl, HB6.out.trans (HK.out.mono HB6.out.size)⟩
    · obtain ⟨g, hf, hgi⟩ := bad_of HL.out (by omega) (by omega) hg
      have hsp := spec_no HL.out (n := n) (i := i) (by omega) true hg _ (Nat.le_refl _)
      have HF := Lib.hid hf
      have HG := Lib.hid hgi
      have HP := Lib.hid hsp
      clear hf hgi hsp hg
      go_upto_region 5 with (go_at_call 20; refine (Put.put_bad Ab cb l n i true g _ HCb.out hcb HF.out HG.out).mono ?_; rintro e w2 ⟨rfl, hw2⟩)
      go_upto_region 6 with (go_at_call 19; refine (spec_BitsPut.calls _ Ab cb l n i true _ _ _ (Kd.C_below HCb.out hw2) hcb HP.out).mono ?_; rintro e w3 ⟨v3, rfl, hR3, hw3⟩)
      go_wp2_with (go_at_call 11; refine (Bits.bitsHas_no Ab cb l n i g _ (Kd.C_below (Kd.C_below HCb.out hw2) hw3) hcb HF.out HG.out).mono ?_; rintro e w4 ⟨rfl, hw4⟩)
      go_ret
      exact ⟨rfl, Bits.bstep (Bits.bstep (Bits.bstep HB1.out hw2) hw3) hw4⟩
end Go.Proofs.Ytleooacadfhelaa.BitsL
