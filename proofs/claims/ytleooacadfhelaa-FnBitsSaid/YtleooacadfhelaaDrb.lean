/- The drawn bitmap, as far as the law on bits needs it: some words, some length. -/
import Derived.Test.YtleooacadfhelaaRd
import Derived.Test.YtleooacadfhelaaBsF
import Derived.Deep.DeepCutAuto
import Derived.Deep.CutBlock
import Derived.Deep.RegionWith
import Derived.IntWalk
namespace Go.Proofs.Ytleooacadfhelaa.Drb
open Go.RowKit Go.Proofs.Ytleooacadfhelaa.PFnBits Go.Proofs.YtleooacadfhelaaW.PrintWords Go.Proofs.YtleooacadfhelaaW.PrintLast BitF Rd
set_option linter.unusedVariables false
set_option linter.unusedSimpArgs false
theorem made_slice {n e B : Nat} {W : World} {ok : Nat → Prop} {v : Value} (h : Kd.bool.R e W B ok v (List.replicate n false)) (hnew : ∃ b, v.ownBlock = some b) :
    ∃ g cap, v = .slice (some ⟨g, 0, none⟩) n cap ∧ B ≤ g ∧ g < W.heap.size ∧ ok g := by
  obtain ⟨_, h2⟩ := Kd.own_of_R h
  have hok := h.1
  rcases h2 with ⟨rfl, _⟩ | ⟨g, cap, cur, rfl, hg, hh, _⟩
  · obtain ⟨b, hb⟩ := hnew
    simp [Value.ownBlock] at hb
  · exact ⟨g, cap, by simp, hg, blk_lt hh, hok g (by simp [Value.ownBlock])⟩
theorem words_app {l : List Int} (h : Words l) : Words (l ++ [0]) := fun x hx => by
  rcases List.mem_append.1 hx with h1 | h1
  · exact h x h1
  · rw [List.mem_singleton.1 h1]
    omega
theorem or_high {x : Int} (h0 : 0 ≤ x) (h1 : x ≤ 18446744073709551615) : 0 ≤ Go.bits .or .u64 x 9223372036854775808 ∧ Go.bits .or .u64 x 9223372036854775808 ≤ 18446744073709551615 := by
  obtain ⟨X, rfl⟩ := Int.eq_ofNat_of_zero_le h0
  have := u64_or_nat X 9223372036854775808 (by omega) (by omega)
  rw [show ((9223372036854775808 : Nat) : Int) = 9223372036854775808 from rfl] at this
  rw [this]
  have hlt : X ||| 9223372036854775808 < 2 ^ 64 := Nat.or_lt_two_pow (by omega) (by omega)
  omega
def Nb (n : Int) : Prop := 0 ≤ n ∧ n ≤ 5000
set_option maxRecDepth 100000 in
set_option maxHeartbeats 4000000 in
theorem bitmap_any {w0 w : World} {g : Nat} {s : List Int} (hs : Bytes s) (hl : s.length ≤ 1048576) (hI : IsRd w0 w g s) (hB : Below w0.heap.size w0 w) :
    Calls Try.prog 30 #[.pointer (some ⟨g, 0, none⟩)] w fun e w' => ∃ (v : Value) (n : Int) (l : List Int), e = .returned (.tuple #[v, .int .i64 n]) ∧ (-1 ≤ n ∧ n ≤ 5000) ∧ (Words l ∧ l.length ≤ 100) ∧ IsRd w0 w' g s ∧ Below w0.heap.size w0 w' ∧ Kd.R (Kd.int .u64) 39 w' w0.heap.size (fun k => k ≠ g) v l := by
  have HI := Lib.hid hI
  have HB := Lib.hid hB
  have HS := Lib.hid hs
  clear hI hB hs
  go_enter Try.func30, Try.ntmps30
  go_upto_region 2 with (go_at_call 29; refine (next_any HS.out hl HI.out HB.out).mono ?_; rintro e w1 ⟨k, rfl, hk, hI, hB, hk⟩; clear HI HB; have HI := Lib.hid hI; have HB := Lib.hid hB; clear hI hB hk)
  go_upto_block 0 with (go_at_call 29; refine (next_any HS.out hl HI.out HB.out).mono ?_; rintro e w1 ⟨r, rfl, hr, hI, hB, hk⟩; clear HI HB; have HI := Lib.hid hI; have HB := Lib.hid hB; clear hI hB hk)
  go_cut [5] (fun s5 wx => (∃ n : Int, Nb n ∧ s5 = .int .i64 n) ∧ wx = w1)
  case first =>
    by_cases h1 : 250 ≤ k
    · go_wp2_with fail
      go_meet
      exact ⟨⟨_, ⟨by omega, by omega⟩, rfl⟩, rfl⟩
    · by_cases h2 : k % 7 = 0
      · go_wp2_with fail
        go_meet
        exact ⟨⟨_, ⟨by omega, by omega⟩, rfl⟩, rfl⟩
      · have h3 : (k % 7 == 0) = false := by simpa using h2
        go_wp2_with fail
        go_meet
        exact ⟨⟨_, ⟨by omega, by omega⟩, rfl⟩, rfl⟩
  case rest =>
    obtain ⟨⟨n, hn, rfl⟩, rfl⟩ := hcut
    obtain ⟨hn0, hn1⟩ := hn
    obtain ⟨n, rfl⟩ := Int.eq_ofNat_of_zero_le hn0
    clear hr
    go_upto_block 1 with ((with_reducible refine gate_dst (N := 28) rfl ?_); refine Kd.R_make Kd.bool w0.heap.size 4 rfl (N := 28) rfl 36 _ _ rfl (n : Int) rfl rfl Try.underlying36 (.bool false) 1 (by kernel_rfl) rfl (by decide) (by omega) false (ok := fun k => k ≠ g) (okp := fun k => k ≠ g) rfl (fun _ hk => hk) (by have := HI.out.lt; omega) (by omega) (by omega) HB.out HB.out.size ?_; intro vq w2 hRq hB2 hg2 hnew2; have hI2 := HI.out.grown hg2 (by simp); clear HI HB; have HI := Lib.hid hI2; have HB := Lib.hid hB2; rw [Int.toNat_natCast] at hRq; obtain ⟨b, cq, rfl, hb0, hb1, hbg⟩ := made_slice hRq (by obtain ⟨q, hq, hq'⟩ := hnew2; exact ⟨q, hq⟩); clear hg2 hI2 hB2 hnew2; have HR := Lib.hid hRq; clear hRq)
    have hgb : some g ≠ some b := fun e => hbg (Option.some.inj e).symm
    go_cut [] (fun wx => ∃ qs : List Bool, Hid (qs.length = n) ∧ Hid (Kd.bool.R 4 wx w0.heap.size (fun k => k ≠ g) (.slice (some ⟨b, 0, none⟩) n cq) qs) ∧ Hid (IsRd w0 wx g s) ∧ Hid (Below w0.heap.size w0 wx))
    case first =>
      go_wp2_with fail
      go_loopw [31] (fun i wr => ∃ j : Nat, j ≤ n ∧ i = .int .i64 j ∧ ∃ qs : List Bool, Hid (qs.length = n) ∧ Hid (Kd.bool.R 4 wr w0.heap.size (fun k => k ≠ g) (.slice (some ⟨b, 0, none⟩) n cq) qs) ∧ Hid (IsRd w0 wr g s) ∧ Hid (Below w0.heap.size w0 wr)) (fun i _ => n - (intOf i).toNat)
      case atStart => exact ⟨0, Nat.zero_le _, rfl, _, Lib.hid (by simp), HR, HI, HB⟩
      case round =>
        clear HR HI HB
        obtain ⟨j, hj, rfl, qs, HQ, HR, HI, HB⟩ := hrel
        by_cases hlt : j < n
        · obtain ⟨hc, hf⟩ := Kd.R_celln false HR.out (j : Int) (by omega) (by omega)
          rw [Int.toNat_natCast] at hc hf
          by_cases h0 : k % 5 = 0
          · go_wp2_with fail
            go_roundw
            case rel => exact ⟨j + 1, by omega, by go_num, _, Lib.hid (by simp; exact HQ.out), Lib.hid (Kd.R_putn HR.out (j : Int) _), Lib.hid (HI.out.grown (Kd.R_putg HR.out (j : Int) _).2 hgb), Lib.hid (HB.out.setCell (p := ⟨b, j, none⟩) hb0 _)⟩
            case measure => simp [intOf]; omega
          · by_cases h1 : k % 5 = 1
            · clear hc hf
              obtain ⟨ii, hii, hIS⟩ := HI.out
              obtain ⟨r, hre⟩ : ∃ r, nx s ii = r := ⟨_, rfl⟩
              have hr := nx_range HS.out hii.1
              rw [hre] at hr
              have HE := Lib.hid hre
              have HIS := Lib.hid hIS
              have HII := Lib.hid hii
              have hadv := adv_range hii
              clear hre hIS HI hii
              by_cases hp : 0 < r % 8
              · have hpd : decide (0 < r % 8) = true := decide_eq_true hp
                have hm : r.tmod 8 = r % 8 := Int.tmod_eq_emod_of_nonneg (by omega)
                have hw : IntKind.i64.wrap (r % 8) = r % 8 := IntWalk.i64_in _ (by omega)
                go_wp2_with fail
                refine wp_region_any (by kernel_rfl) ?_
                change wpAny _ _ _ _ _ _ _ (World.drew _)
                refine wpAny_take (i := 0) (v := ?v0n1) rfl (by kernel_rfl) (by kernel_rfl) (by kernel_rfl) (fun _ _ _ h => h) (Or.inl ⟨by kernel_rfl, ?y0n1⟩) ?r0n1
                case y0n1 => (intro w; go_simp; first | done | with_reducible rfl)
                refine wpAny_take (i := 1) (v := ?v1n2) rfl (by kernel_rfl) (by kernel_rfl) (by kernel_rfl) (fun _ _ _ h => h) (Or.inl ⟨by kernel_rfl, ?y1n2⟩) ?r1n2
                case y1n2 => (intro w; go_simp; first | done | with_reducible rfl)
                refine wpAny_take (i := 2) (v := ?v2n3) rfl (by kernel_rfl) (by kernel_rfl) (by kernel_rfl) (fun _ _ _ h => h) (Or.inl ⟨by kernel_rfl, ?y2n3⟩) ?r2n3
                case y2n3 => (intro w; go_simp; first | done | with_reducible rfl)
                refine wpAny_ready (rs := [3]) (by kernel_rfl) (by simp) ?_
                refine AllReady.cons rfl (fun K hK => ?_) AllReady.nil
                go_simp
                refine (next_at HS.out hl HII.out.1 HE.out HIS.out.drew (below_drew HB.out)).mono ?_; rintro e w1 ⟨rfl, hI, hB, hk⟩; have hR1 := Kd.R_keep (Kd.R_drew HR.out) hk (fun _ h => h); obtain ⟨hc, hf⟩ := Kd.R_celln false hR1 (j : Int) (by omega) (by omega); rw [Int.toNat_natCast] at hc hf; have HR1 := Lib.hid hR1; have hck := hI; obtain ⟨Ai, ci, hbi, _⟩ := hck; have hci0 := cellS50_0 hbi; have hci1 := cellS50_1 hbi; have HI := Lib.hid hI; have HB1 := Lib.hid hB; clear hI hB hk hR1 hbi
                refine hK _ _ ?_
                clear hK K
                refine wpAny_take (i := 4) (v := ?v4n4) rfl (by kernel_rfl) (by kernel_rfl) (by kernel_rfl) (fun _ _ _ h => h) (Or.inl ⟨by kernel_rfl, ?y4n4⟩) ?r4n4
                case y4n4 => (intro w; go_simp; first | done | with_reducible rfl)
                refine wpAny_take (i := 5) (v := ?v5n5) rfl (by kernel_rfl) (by kernel_rfl) (by kernel_rfl) (fun _ _ _ h => h) (Or.inl ⟨by kernel_rfl, ?y5n5⟩) ?r5n5
                case y5n5 => (intro w; go_simp; first | done | with_reducible rfl)
                refine wpAny_take (i := 6) (v := ?v6n6) rfl (by kernel_rfl) (by kernel_rfl) (by kernel_rfl) (fun _ _ _ h => h) (Or.inl ⟨by kernel_rfl, ?y6n6⟩) ?r6n6
                case y6n6 => (intro w; go_simp; first | done | with_reducible rfl)
                refine wpAny_take (i := 7) (v := undef) rfl (by kernel_rfl) (by kernel_rfl) (by kernel_rfl) (fun _ _ _ h => h) (Or.inr ⟨by kernel_rfl, rfl⟩) ?_
                refine wpAny_take (i := 8) (v := undef) rfl (by kernel_rfl) (by kernel_rfl) (by kernel_rfl) (fun _ _ _ h => h) (Or.inr ⟨by kernel_rfl, rfl⟩) ?_
                refine wpAny_take (i := 9) (v := undef) rfl (by kernel_rfl) (by kernel_rfl) (by kernel_rfl) (fun _ _ _ h => h) (Or.inr ⟨by kernel_rfl, rfl⟩) ?_
                refine wpAny_take (i := 10) (v := undef) rfl (by kernel_rfl) (by kernel_rfl) (by kernel_rfl) (fun _ _ _ h => h) (Or.inr ⟨by kernel_rfl, rfl⟩) ?_
                refine wpAny_take (i := 11) (v := undef) rfl (by kernel_rfl) (by kernel_rfl) (by kernel_rfl) (fun _ _ _ h => h) (Or.inr ⟨by kernel_rfl, rfl⟩) ?_
                refine wpAny_take (i := 12) (v := undef) rfl (by kernel_rfl) (by kernel_rfl) (by kernel_rfl) (fun _ _ _ h => h) (Or.inr ⟨by kernel_rfl, rfl⟩) ?_
                refine wpAny_take (i := 13) (v := undef) rfl (by kernel_rfl) (by kernel_rfl) (by kernel_rfl) (fun _ _ _ h => h) (Or.inr ⟨by kernel_rfl, rfl⟩) ?_
                refine wpAny_take (i := 14) (v := undef) rfl (by kernel_rfl) (by kernel_rfl) (by kernel_rfl) (fun _ _ _ h => h) (Or.inr ⟨by kernel_rfl, rfl⟩) ?_
                refine wpAny_take (i := 15) (v := undef) rfl (by kernel_rfl) (by kernel_rfl) (by kernel_rfl) (fun _ _ _ h => h) (Or.inr ⟨by kernel_rfl, rfl⟩) ?_
                refine wpAny_take (i := 16) (v := undef) rfl (by kernel_rfl) (by kernel_rfl) (by kernel_rfl) (fun _ _ _ h => h) (Or.inr ⟨by kernel_rfl, rfl⟩) ?_
                refine wpAny_take (i := 17) (v := ?v17n7) rfl (by kernel_rfl) (by kernel_rfl) (by kernel_rfl) (fun _ _ _ h => h) (Or.inl ⟨by kernel_rfl, ?y17n7⟩) ?r17n7
                case y17n7 => (intro w; go_simp; first | done | with_reducible rfl)
                refine wpAny_take (i := 18) (v := ?v18n8) rfl (by kernel_rfl) (by kernel_rfl) (by kernel_rfl) (fun _ _ _ h => h) (Or.inl ⟨by kernel_rfl, ?y18n8⟩) ?r18n8
                case y18n8 => (intro w; go_simp; first | done | with_reducible rfl)
                refine wpAny_ready (rs := [19]) (by kernel_rfl) (by simp) ?_
                refine AllReady.cons rfl (fun K hK => ?_) AllReady.nil
                go_simp
                refine hK _ _ ?_
                clear hK K
                refine wpAny_done (by kernel_rfl) ?_ _
                go_wp2_with fail
                go_roundw
                case rel => exact ⟨j + 1, by omega, by go_num, _, Lib.hid (by simp; exact HQ.out), Lib.hid (Kd.R_putn HR1.out (j : Int) _), Lib.hid (IsRd.grown ⟨_, hadv, HI.out⟩ (Kd.R_putg HR1.out (j : Int) _).2 hgb), Lib.hid (HB1.out.setCell (p := ⟨b, j, none⟩) hb0 _)⟩
                case measure => simp [intOf]; omega
              · have hpd : decide (0 < r % 8) = false := decide_eq_false hp
                have hm : r.tmod 8 = r % 8 := Int.tmod_eq_emod_of_nonneg (by omega)
                have hw : IntKind.i64.wrap (r % 8) = r % 8 := IntWalk.i64_in _ (by omega)
                go_wp2_with fail
                refine wp_region_any (by kernel_rfl) ?_
                change wpAny _ _ _ _ _ _ _ (World.drew _)
                refine wpAny_take (i := 0) (v := ?v0n9) rfl (by kernel_rfl) (by kernel_rfl) (by kernel_rfl) (fun _ _ _ h => h) (Or.inl ⟨by kernel_rfl, ?y0n9⟩) ?r0n9
                case y0n9 => (intro w; go_simp; first | done | with_reducible rfl)
                refine wpAny_take (i := 1) (v := ?v1n10) rfl (by kernel_rfl) (by kernel_rfl) (by kernel_rfl) (fun _ _ _ h => h) (Or.inl ⟨by kernel_rfl, ?y1n10⟩) ?r1n10
                case y1n10 => (intro w; go_simp; first | done | with_reducible rfl)
                refine wpAny_take (i := 2) (v := ?v2n11) rfl (by kernel_rfl) (by kernel_rfl) (by kernel_rfl) (fun _ _ _ h => h) (Or.inl ⟨by kernel_rfl, ?y2n11⟩) ?r2n11
                case y2n11 => (intro w; go_simp; first | done | with_reducible rfl)
                refine wpAny_ready (rs := [3]) (by kernel_rfl) (by simp) ?_
                refine AllReady.cons rfl (fun K hK => ?_) AllReady.nil
                go_simp
                refine (next_at HS.out hl HII.out.1 HE.out HIS.out.drew (below_drew HB.out)).mono ?_; rintro e w1 ⟨rfl, hI, hB, hk⟩; have hR1 := Kd.R_keep (Kd.R_drew HR.out) hk (fun _ h => h); obtain ⟨hc, hf⟩ := Kd.R_celln false hR1 (j : Int) (by omega) (by omega); rw [Int.toNat_natCast] at hc hf; have HR1 := Lib.hid hR1; have hck := hI; obtain ⟨Ai, ci, hbi, _⟩ := hck; have hci0 := cellS50_0 hbi; have hci1 := cellS50_1 hbi; have HI := Lib.hid hI; have HB1 := Lib.hid hB; clear hI hB hk hR1 hbi
                refine hK _ _ ?_
                clear hK K
                refine wpAny_take (i := 4) (v := ?v4n12) rfl (by kernel_rfl) (by kernel_rfl) (by kernel_rfl) (fun _ _ _ h => h) (Or.inl ⟨by kernel_rfl, ?y4n12⟩) ?r4n12
                case y4n12 => (intro w; go_simp; first | done | with_reducible rfl)
                refine wpAny_take (i := 5) (v := ?v5n13) rfl (by kernel_rfl) (by kernel_rfl) (by kernel_rfl) (fun _ _ _ h => h) (Or.inl ⟨by kernel_rfl, ?y5n13⟩) ?r5n13
                case y5n13 => (intro w; go_simp; first | done | with_reducible rfl)
                refine wpAny_take (i := 6) (v := ?v6n14) rfl (by kernel_rfl) (by kernel_rfl) (by kernel_rfl) (fun _ _ _ h => h) (Or.inl ⟨by kernel_rfl, ?y6n14⟩) ?r6n14
                case y6n14 => (intro w; go_simp; first | done | with_reducible rfl)
                refine wpAny_take (i := 7) (v := ?v7n15) rfl (by kernel_rfl) (by kernel_rfl) (by kernel_rfl) (fun _ _ _ h => h) (Or.inl ⟨by kernel_rfl, ?y7n15⟩) ?r7n15
                case y7n15 => (intro w; go_simp; first | done | with_reducible rfl)
                refine wpAny_take (i := 8) (v := ?v8n16) rfl (by kernel_rfl) (by kernel_rfl) (by kernel_rfl) (fun _ _ _ h => h) (Or.inl ⟨by kernel_rfl, ?y8n16⟩) ?r8n16
                case y8n16 => (intro w; go_simp; first | done | with_reducible rfl)
                refine wpAny_take (i := 9) (v := ?v9n17) rfl (by kernel_rfl) (by kernel_rfl) (by kernel_rfl) (fun _ _ _ h => h) (Or.inl ⟨by kernel_rfl, ?y9n17⟩) ?r9n17
                case y9n17 => (intro w; go_simp; first | done | with_reducible rfl)
                refine wpAny_take (i := 11) (v := ?v11n18) rfl (by kernel_rfl) (by kernel_rfl) (by kernel_rfl) (fun _ _ _ h => h) (Or.inl ⟨by kernel_rfl, ?y11n18⟩) ?r11n18
                case y11n18 => (intro w; go_simp; first | done | with_reducible rfl)
                refine wpAny_take (i := 12) (v := ?v12n19) rfl (by kernel_rfl) (by kernel_rfl) (by kernel_rfl) (fun _ _ _ h => h) (Or.inl ⟨by kernel_rfl, ?y12n19⟩) ?r12n19
                case y12n19 => (intro w; go_simp; first | done | with_reducible rfl)
                refine wpAny_take (i := 13) (v := ?v13n20) rfl (by kernel_rfl) (by kernel_rfl) (by kernel_rfl) (fun _ _ _ h => h) (Or.inl ⟨by kernel_rfl, ?y13n20⟩) ?r13n20
                case y13n20 => (intro w; go_simp; first | done | with_reducible rfl)
                refine wpAny_ready (rs := [10, 14]) (by kernel_rfl) (by simp) ?_
                refine AllReady.cons rfl (fun K hK => ?_) (AllReady.cons rfl (fun K hK => ?_) (AllReady.nil))
                · go_simp
                  refine hK _ _ ?_
                  clear hK K
                  refine wpAny_ready (rs := [14]) (by kernel_rfl) (by simp) ?_
                  refine AllReady.cons rfl (fun K hK => ?_) AllReady.nil
                  go_simp
                  refine hK _ _ ?_
                  clear hK K
                  refine wpAny_take (i := 15) (v := ?v15n21) rfl (by kernel_rfl) (by kernel_rfl) (by kernel_rfl) (fun _ _ _ h => h) (Or.inl ⟨by kernel_rfl, ?y15n21⟩) ?r15n21
                  case y15n21 => (intro w; go_simp; first | done | with_reducible rfl)
                  refine wpAny_take (i := 16) (v := ?v16n22) rfl (by kernel_rfl) (by kernel_rfl) (by kernel_rfl) (fun _ _ _ h => h) (Or.inl ⟨by kernel_rfl, ?y16n22⟩) ?r16n22
                  case y16n22 => (intro w; go_simp; first | done | with_reducible rfl)
                  refine wpAny_take (i := 17) (v := ?v17n23) rfl (by kernel_rfl) (by kernel_rfl) (by kernel_rfl) (fun _ _ _ h => h) (Or.inl ⟨by kernel_rfl, ?y17n23⟩) ?r17n23
                  case y17n23 => (intro w; go_simp; first | done | with_reducible rfl)
                  refine wpAny_take (i := 18) (v := ?v18n24) rfl (by kernel_rfl) (by kernel_rfl) (by kernel_rfl) (fun _ _ _ h => h) (Or.inl ⟨by kernel_rfl, ?y18n24⟩) ?r18n24
                  case y18n24 => (intro w; go_simp; first | done | with_reducible rfl)
                  refine wpAny_ready (rs := [19]) (by kernel_rfl) (by simp) ?_
                  refine AllReady.cons rfl (fun K hK => ?_) AllReady.nil
                  go_simp
                  refine hK _ _ ?_
                  clear hK K
                  refine wpAny_done (by kernel_rfl) ?_ _
                  go_wp2_with fail
                  go_roundw
                  case rel => exact ⟨j + 1, by omega, by go_num, _, Lib.hid (by simp; exact HQ.out), Lib.hid (Kd.R_putn HR1.out (j : Int) _), Lib.hid (IsRd.grown ⟨_, hadv, HI.out⟩ (Kd.R_putg HR1.out (j : Int) _).2 hgb), Lib.hid (HB1.out.setCell (p := ⟨b, j, none⟩) hb0 _)⟩
                  case measure => simp [intOf]; omega
                · go_simp
                  refine hK _ _ ?_
                  clear hK K
                  refine wpAny_take (i := 15) (v := ?v15n25) rfl (by kernel_rfl) (by kernel_rfl) (by kernel_rfl) (fun _ _ _ h => h) (Or.inl ⟨by kernel_rfl, ?y15n25⟩) ?r15n25
                  case y15n25 => (intro w; go_simp; first | done | with_reducible rfl)
                  refine wpAny_ready (rs := [10]) (by kernel_rfl) (by simp) ?_
                  refine AllReady.cons rfl (fun K hK => ?_) AllReady.nil
                  go_simp
                  refine hK _ _ ?_
                  clear hK K
                  refine wpAny_take (i := 16) (v := ?v16n26) rfl (by kernel_rfl) (by kernel_rfl) (by kernel_rfl) (fun _ _ _ h => h) (Or.inl ⟨by kernel_rfl, ?y16n26⟩) ?r16n26
                  case y16n26 => (intro w; go_simp; first | done | with_reducible rfl)
                  refine wpAny_take (i := 17) (v := ?v17n27) rfl (by kernel_rfl) (by kernel_rfl) (by kernel_rfl) (fun _ _ _ h => h) (Or.inl ⟨by kernel_rfl, ?y17n27⟩) ?r17n27
                  case y17n27 => (intro w; go_simp; first | done | with_reducible rfl)
                  refine wpAny_take (i := 18) (v := ?v18n28) rfl (by kernel_rfl) (by kernel_rfl) (by kernel_rfl) (fun _ _ _ h => h) (Or.inl ⟨by kernel_rfl, ?y18n28⟩) ?r18n28
                  case y18n28 => (intro w; go_simp; first | done | with_reducible rfl)
                  refine wpAny_ready (rs := [19]) (by kernel_rfl) (by simp) ?_
                  refine AllReady.cons rfl (fun K hK => ?_) AllReady.nil
                  go_simp
                  refine hK _ _ ?_
                  clear hK K
                  refine wpAny_done (by kernel_rfl) ?_ _
                  go_wp2_with fail
                  go_roundw
                  case rel => exact ⟨j + 1, by omega, by go_num, _, Lib.hid (by simp; exact HQ.out), Lib.hid (Kd.R_putn HR1.out (j : Int) _), Lib.hid (IsRd.grown ⟨_, hadv, HI.out⟩ (Kd.R_putg HR1.out (j : Int) _).2 hgb), Lib.hid (HB1.out.setCell (p := ⟨b, j, none⟩) hb0 _)⟩
                  case measure => simp [intOf]; omega
            · by_cases h2 : k % 5 = 2
              · clear hc hf
                go_wp2_with (go_at_call 29; refine (next_any HS.out hl HI.out HB.out).mono ?_; rintro e w1 ⟨r, rfl, hr, hI, hB, hk⟩; have hR1 := Kd.R_keep HR.out hk (fun _ h => h); obtain ⟨hc, hf⟩ := Kd.R_celln false hR1 (j : Int) (by omega) (by omega); rw [Int.toNat_natCast] at hc hf; have HR1 := Lib.hid hR1; clear HI HB; have HI := Lib.hid hI; have HB := Lib.hid hB; clear hI hB hk hR1)
                go_roundw
                case rel => exact ⟨j + 1, by omega, by go_num, _, Lib.hid (by simp; exact HQ.out), Lib.hid (Kd.R_putn HR1.out (j : Int) _), Lib.hid (HI.out.grown (Kd.R_putg HR1.out (j : Int) _).2 hgb), Lib.hid (HB.out.setCell (p := ⟨b, j, none⟩) hb0 _)⟩
                case measure => simp [intOf]; omega
              · clear hc hf
                go_wp2_with (go_at_call 29; refine (next_any HS.out hl HI.out HB.out).mono ?_; rintro e w1 ⟨r, rfl, hr, hI, hB, hk⟩; have hR1 := Kd.R_keep HR.out hk (fun _ h => h); obtain ⟨hc, hf⟩ := Kd.R_celln false hR1 (j : Int) (by omega) (by omega); rw [Int.toNat_natCast] at hc hf; have HR1 := Lib.hid hR1; clear HI HB; have HI := Lib.hid hI; have HB := Lib.hid hB; clear hI hB hk hR1)
                go_roundw
                case rel => exact ⟨j + 1, by omega, by go_num, _, Lib.hid (by simp; exact HQ.out), Lib.hid (Kd.R_putn HR1.out (j : Int) _), Lib.hid (HI.out.grown (Kd.R_putg HR1.out (j : Int) _).2 hgb), Lib.hid (HB.out.setCell (p := ⟨b, j, none⟩) hb0 _)⟩
                case measure => simp [intOf]; omega
        · go_wp2_with fail
          go_meet
          exact ⟨qs, HQ, HR, HI, HB⟩
    case rest =>
      clear HR HI HB
      obtain ⟨qs, HQ, HR, HI, HB⟩ := hcut
      go_upto_region 20 with fail
      go_cut [90] (fun c wx => (∃ bq : Bool, c = .bool bq ∧ (bq = true → 0 < n)) ∧ wx = wc)
      case first =>
        by_cases h1 : k % 5 = 0
        · by_cases h2 : 0 < n
          · by_cases h3 : 0 < k % 3
            · go_wp2_with fail
              go_meet
              exact ⟨⟨_, rfl, fun _ => h2⟩, rfl⟩
            · have h3b : decide (0 < k % 3) = false := decide_eq_false h3
              go_wp2_with fail
              go_meet
              exact ⟨⟨_, rfl, fun _ => h2⟩, rfl⟩
          · have h2b : decide (0 < n) = false := decide_eq_false h2
            go_wp2_with fail
            go_meet
            exact ⟨⟨false, rfl, fun h => by cases h⟩, rfl⟩
        · have h1b : (k % 5 == 0) = false := by simpa using h1
          go_wp2_with fail
          go_meet
          exact ⟨⟨false, rfl, fun h => by cases h⟩, rfl⟩
      case rest =>
        obtain ⟨⟨bq, rfl, hbq⟩, rfl⟩ := hcut
        have HBQ := Lib.hid hbq
        clear hbq
        go_upto_if 90 with fail
        go_cut [] (fun wx => ∃ qs : List Bool, Hid (qs.length = n) ∧ Hid (Kd.bool.R 4 wx w0.heap.size (fun k => k ≠ g) (.slice (some ⟨b, 0, none⟩) n cq) qs) ∧ Hid (IsRd w0 wx g s) ∧ Hid (Below w0.heap.size w0 wx))
        case first =>
          cases bq with
          | true =>
            have h2 := HBQ.out rfl
            go_wp2_with (go_at_call 29; refine (next_any HS.out hl HI.out HB.out).mono ?_; rintro e w1 ⟨r, rfl, hr, hI, hB, hk⟩; have hR1 := Kd.R_keep HR.out hk (fun _ h => h); have HR1 := Lib.hid hR1; clear hR1; have hq0 : 0 ≤ r * 256 % (n : Int) := Int.emod_nonneg _ (by omega); have hq1 : r * 256 % (n : Int) < (n : Int) := Int.emod_lt_of_pos _ (by omega); obtain ⟨hc, hf⟩ := Kd.R_celln false HR1.out (r * 256 % (n : Int)) hq0 hq1; clear HI HB; have HI := Lib.hid hI; have HB := Lib.hid hB; clear hI hB hk)
            go_meet
            exact ⟨_, Lib.hid (by simp; exact HQ.out), Lib.hid (Kd.R_putn HR1.out _ _), Lib.hid (HI.out.grown (Kd.R_putg HR1.out _ _).2 hgb), Lib.hid (HB.out.setCell (p := ⟨b, _, none⟩) hb0 _)⟩
          | false =>
            go_wp2_with fail
            go_meet
            exact ⟨_, HQ, HR, HI, HB⟩
        case rest =>
          clear HQ HR HI HB HBQ
          obtain ⟨qs, HQ, HR, HI, HB⟩ := hcut
          obtain ⟨ls, hls, hl1, hl2, _⟩ := BsF.words_is qs (by have := HQ.out; omega) (qs.length + 1) (Nat.lt_succ_self _)
          have HLS := Lib.hid hls
          have HL2 := Lib.hid hl2
          have hl3 : ls.length ≤ 80 := by have := HQ.out; omega
          clear hls hl1 hl2
          have hwords : ∀ W : World, Kd.C Kd.bool W (some ⟨b, 0, none⟩) qs.length qs → Calls Try.prog 28 #[.slice (some ⟨b, 0, none⟩) n cq] W fun e w' => ∃ v0 : Value, e = .returned v0 ∧ Kd.R (Kd.int .u64) 39 w' W.heap.size (fun _ => True) v0 ls ∧ Below W.heap.size W w' := fun W hC => by
            have := PFnBits.spec_l2Words.calls _ (some ⟨b, 0, none⟩) cq qs ls W hC (by have := Kd.R_reads' HR.out; rw [HQ.out]; exact this.2.1) HLS.out
            rw [HQ.out] at this
            exact this
          have HWD := Lib.hid hwords
          clear hwords
          go_upto_block 4 with (first
            | (go_at_call 28; refine (HWD.out _ (Kd.R_reads' HR.out).2.2).mono ?_; rintro e w2 ⟨vb, rfl, hRb, hBb⟩; have hI := HI.out.below hBb; have hB := Bits.bstep HB.out hBb; have hRb2 := Kd.R_lower (Kd.R_mono (Kd.R_bound hRb) (ok' := fun k => k ≠ g) (fun k hk => by have := HI.out.lt; have := hk.2.1; omega)) HB.out.size; clear HI HB HR HQ hBb hRb; have HI := Lib.hid hI; have HB := Lib.hid hB; have HR := Lib.hid hRb2; clear hI hB hRb2)
            | (go_at_call 29; refine (next_any HS.out hl HI.out HB.out).mono ?_; rintro e w1 ⟨r, rfl, hr, hI, hB, hk⟩; have hR1 := Kd.R_keep HR.out hk (fun _ h => h); clear HR; have HR := Lib.hid hR1; clear hR1; clear HI HB; have HI := Lib.hid hI; have HB := Lib.hid hB; clear hI hB hk))
          have hrr : 0 ≤ r % 24 := by omega
          clear HWD HLS
          go_cut [5, 8] (fun s5 s8 wx => ∃ (n' : Int) (l' : List Int), s5 = .int .i64 n' ∧ (-1 ≤ n' ∧ n' ≤ 5000) ∧ Hid (Words l') ∧ l'.length ≤ 100 ∧ Hid (IsRd w0 wx g s) ∧ Hid (Below w0.heap.size w0 wx) ∧ Hid (Kd.R (Kd.int .u64) 39 wx w0.heap.size (fun k => k ≠ g) s8 l'))
          case first =>
            by_cases h1 : r % 24 = 1
            · have h1b : (r % 24 == 1) = true := by simpa using h1
              clear h1
              go_wp2_with ((with_reducible refine gate_dst (N := 107) rfl ?_); at_builtin; refine Kd.R_append (Kd.int .u64) (w0 := w0) w0.heap.size rfl (.tmp 105) (.tmp 106) 22 39 (.int .u64 0) 8 rfl Try.underlying22 (by kernel_rfl) rfl (by decide) (by omega) vb ls 0 [.int .u64 0] (fun k => k ≠ g) (fun _ => False) rfl rfl ?aP (fun _ hk => hk.elim) ?aF ?aO ?aB ?aS ?aL ?_; (case aP => exact rfl); (case aF => intro k hk; have := HI.out.lt; omega); (case aO => exact HR.out); (case aB => exact HB.out); (case aS => exact HB.out.size); (case aL => omega); intro v1 w3 hR3 hB3 hg3 hat3; have hI3 := HI.out.grown hg3 (fun e => Kd.R_away HR.out (fun _ h => h) e))
              go_meet
              exact ⟨n, ls ++ [0], rfl, ⟨by omega, by omega⟩, Lib.hid (words_app HL2.out), by simp; omega, Lib.hid hI3, Lib.hid hB3, Lib.hid hR3⟩
            · by_cases h2 : r % 24 = 2
              · have h2b : (r % 24 == 2) = true := by simpa using h2
                have h1b : (r % 24 == 1) = false := by simpa using h1
                clear h1 h2
                by_cases hlen : 0 < ls.length
                · obtain ⟨gb, cb, rfl, hgb0, hgb1, cells, hcells⟩ := Kd.R_form HR.out hlen
                  have hggb : some g ≠ some gb := Kd.R_away HR.out (fun _ h => h)
                  clear hcells
                  obtain ⟨hc, hf⟩ := Kd.R_cell 0 HR.out ((ls.length : Int) - 1) (by omega) (by omega)
                  rw [show ((ls.length : Int) - 1).toNat = ls.length - 1 by omega] at hc hf
                  by_cases hn6 : 0 < (n : Int) % 64
                  · obtain ⟨x, hx⟩ : ∃ x, rdOf 0 ls ((ls.length : Int) - 1) = x := ⟨_, rfl⟩
                    have hxr := HL2.out _ (rd_mem (l := ls) (i := (ls.length : Int) - 1) (by omega) (by omega))
                    rw [show rd ls ((ls.length : Int) - 1) = x from hx] at hxr
                    rw [hx] at hc
                    clear hx
                    go_wp2_with fail
                    go_meet
                    have hpg := Kd.R_putg HR.out ((ls.length : Int) - 1) (Go.bits .or .u64 x 9223372036854775808)
                    rw [show ((ls.length : Int) - 1).toNat = ls.length - 1 by omega] at hpg
                    exact ⟨n, ls.set (ls.length - 1) _, rfl, ⟨by omega, by omega⟩, Lib.hid (BsF.words_set HL2.out (or_high hxr.1 hxr.2)), by simp; omega, Lib.hid (HI.out.grown hpg.2 hggb), Lib.hid (HB.out.setCell (p := ⟨gb, _, none⟩) hgb0 _), Lib.hid hpg.1⟩
                  · have hn7 : decide (0 < (n : Int) % 64) = false := decide_eq_false hn6
                    clear hc hf
                    go_wp2_with fail
                    go_meet
                    exact ⟨n, ls, rfl, ⟨by omega, by omega⟩, HL2, by omega, HI, HB, HR⟩
                · have hl0 : decide (0 < ls.length) = false := decide_eq_false hlen
                  obtain ⟨Ab, cb, rfl⟩ := Kd.R_slice HR.out
                  have hl00 : decide ((0 : Int) < (ls.length : Int)) = false := decide_eq_false (by omega)
                  go_wp2_with fail
                  go_meet
                  exact ⟨n, ls, rfl, ⟨by omega, by omega⟩, HL2, by omega, HI, HB, HR⟩
              · by_cases h3 : r % 24 = 3
                · go_wp2_with fail
                  go_meet
                  exact ⟨-1, ls, rfl, ⟨by omega, by omega⟩, HL2, by omega, HI, HB, HR⟩
                · go_wp2_with fail
                  go_meet
                  exact ⟨n, ls, rfl, ⟨by omega, by omega⟩, HL2, by omega, HI, HB, HR⟩
          case rest =>
            clear HI HB HR HL2
            obtain ⟨n', l', rfl, hn', HL2, hl', HI, HB, HR⟩ := hcut
            go_wp2
            exact bodyPost_ret (v := .tuple #[u8, .int .i64 n']) (by simp [results, Try.results30, go_sem]) rfl ⟨_, _, _, rfl, hn', ⟨HL2.out, hl'⟩, HI.out, HB.out, HR.out⟩
end Go.Proofs.Ytleooacadfhelaa.Drb
