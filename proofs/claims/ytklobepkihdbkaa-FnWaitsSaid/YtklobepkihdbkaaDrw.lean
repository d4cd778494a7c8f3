/- Drawn runs of pushes: what the draw leaves. -/
import Derived.Test.YtklobepkihdbkaaRdW
import Derived.Test.YtklobepkihdbkaaRwIb
namespace Go.Proofs.Ytklobepkihdbkaa.Drw
open Go.RowKit Go.Proofs.YtklobepkihdbkaaW.PrintWords Go.Proofs.YtklobepkihdbkaaW.PrintLast Go.Proofs.YtklobepkihdbkaaW.PrintMore RdW RwIb
set_option linter.unusedVariables false
set_option linter.unusedSimpArgs false
def iota (n : Nat) : List Int := (List.range n).map Int.ofNat
theorem iota_len (n : Nat) : (iota n).length = n := by simp [iota]
theorem iota_succ (n : Nat) : iota (n + 1) = iota n ++ [(n : Int)] := by simp [iota, List.range_succ]
theorem iota_getD {n j : Nat} (h : j < n) : (iota n).getD j 0 = (j : Int) := by simp [iota, List.getD_eq_getElem?_getD, h]
def Drawn (slots draws : List Int) : Prop := slots.length ≤ 2001 ∧ draws.length ≤ 2001 ∧ (slots = iota slots.length ∨ (-1 : Int) ∈ slots)
theorem R_re {w' : World} {B0 e : Nat} {ok ok' : Nat → Prop} {v : Value} {xs : List Int} (h : (Kd.int .i64).R e w' B0 ok v xs) (h' : ∀ k, v.ownBlock = some k → ok' k) : (Kd.int .i64).R e w' B0 ok' v xs :=
  ⟨h', by obtain ⟨h0, inner, ho, hr⟩ := h; exact ⟨inner, ho, hr.imp_ (fun _ _ hp => hp)⟩⟩
def DInv (w : World) (g : Nat) (s : List Int) (vs : Value) (ss : List Int) (vd : Value) (ds : List Int) (W : World) : Prop :=
  (Kd.int .i64).R 3 W w.heap.size (fun k => k ≠ g ∧ some k ≠ vd.ownBlock) vs ss ∧ (Kd.int .i64).R 3 W w.heap.size (fun k => k ≠ g ∧ some k ≠ vs.ownBlock) vd ds ∧ IsRd w W g s ∧ Below w.heap.size w W
def Drew (w : World) (e : Ending) (w' : World) : Prop := ∃ (mix limit : Int) (slots draws : List Int) (v1 v2 : Value), Drawn slots draws ∧ e = .returned (.tuple #[.int .i64 mix, .int .i64 limit, v1, v2]) ∧
  (Kd.int .i64).R 3 w' w.heap.size (fun k => some k ≠ v2.ownBlock) v1 slots ∧ (Kd.int .i64).R 3 w' w.heap.size (fun k => some k ≠ v1.ownBlock) v2 draws ∧ Below w.heap.size w w'
theorem dinv_slots {w W W1 : World} {g : Nat} {s : List Int} {vs vd v1 : Value} {ss ss' ds : List Int} (h : DInv w g s vs ss vd ds W) (hR : (Kd.int .i64).R 3 W1 w.heap.size (fun k => k ≠ g ∧ some k ≠ vd.ownBlock) v1 ss') (hB : Below w.heap.size w W1) (hg : W.grownBy W1 vs.ownBlock) : DInv w g s v1 ss' vd ds W1 := by
  obtain ⟨h1, h2, h3, h4⟩ := h
  refine ⟨hR, R_re (Kd.R_grown h2 hg (fun k hk => hk.2)) (fun k hk => ⟨(h2.1 k hk).1, fun e => (hR.1 k e.symm).2 hk.symm⟩), h3.grown hg (fun e => (h1.1 g e.symm).1 rfl), hB⟩
theorem dinv_draws {w W W1 : World} {g : Nat} {s : List Int} {vs vd v1 : Value} {ss ds ds' : List Int} (h : DInv w g s vs ss vd ds W) (hR : (Kd.int .i64).R 3 W1 w.heap.size (fun k => k ≠ g ∧ some k ≠ vs.ownBlock) v1 ds') (hB : Below w.heap.size w W1) (hg : W.grownBy W1 vd.ownBlock) : DInv w g s vs ss v1 ds' W1 := by
  obtain ⟨h1, h2, h3, h4⟩ := h
  refine ⟨R_re (Kd.R_grown h1 hg (fun k hk => hk.2)) (fun k hk => ⟨(h1.1 k hk).1, fun e => (hR.1 k e.symm).2 hk.symm⟩), hR, h3.grown hg (fun e => (h2.1 g e.symm).1 rfl), hB⟩
theorem dinv_keep {w W W1 : World} {g : Nat} {s : List Int} {vs vd : Value} {ss ds : List Int} (h : DInv w g s vs ss vd ds W) (hk : KeepBut W W1 g none) (hI : IsRd w W1 g s) (hB : Below w.heap.size w W1) : DInv w g s vs ss vd ds W1 :=
  ⟨Kd.R_keep h.1 hk (fun k hk => hk.1), Kd.R_keep h.2.1 hk (fun k hk => hk.1), hI, hB⟩
theorem dinv_new {w W : World} {g : Nat} {s : List Int} (hI : IsRd w W g s) (hB : Below w.heap.size w W) : DInv w g s (.slice none 0 0) [] (.slice none 0 0) [] W := ⟨Kd.R_nil _ _ _ _ _, Kd.R_nil _ _ _ _ _, hI, hB⟩
theorem dinv_fresh {w W : World} {g : Nat} {s : List Int} {vs vd : Value} {ss ds : List Int} (h : DInv w g s vs ss vd ds W) : (∀ q, W.heap.size ≤ q → q ≠ g ∧ some q ≠ vd.ownBlock) ∧ (∀ q, W.heap.size ≤ q → q ≠ g ∧ some q ≠ vs.ownBlock) := by
  have hg := h.2.2.1.lt
  have h1 := (Kd.R_bound h.1).1
  have h2 := (Kd.R_bound h.2.1).1
  exact ⟨fun q hq => ⟨by omega, fun e => by have := (h2 q e.symm).2.2.1; omega⟩, fun q hq => ⟨by omega, fun e => by have := (h1 q e.symm).2.2.1; omega⟩⟩
theorem drew_of {w W : World} {g : Nat} {s : List Int} {vs vd : Value} {ss ds : List Int} (mix limit : Int) (h : DInv w g s vs ss vd ds W) (hd : Drawn ss ds) : Drew w (.returned (.tuple #[.int .i64 mix, .int .i64 limit, vs, vd])) W :=
  ⟨mix, limit, ss, ds, vs, vd, hd, rfl, Kd.R_mono h.1 (fun k hk => hk.2), Kd.R_mono h.2.1 (fun k hk => hk.2), h.2.2.2⟩
theorem drawn_iota {n : Nat} {ds : List Int} (hn : n ≤ 2001) (hd : ds.length ≤ n) : Drawn (iota n) ds := ⟨by rw [iota_len]; omega, by omega, .inl (by rw [iota_len])⟩
theorem drawn_set {n : Nat} {ds : List Int} (hn : n ≤ 2001) (h0 : 0 < n) (hd : ds.length ≤ n) (i : Nat) (hi : i < n) : Drawn ((iota n).set i (-1)) ds :=
  ⟨by rw [List.length_set, iota_len]; omega, by omega, .inr (List.mem_iff_getElem.2 ⟨i, by rw [List.length_set, iota_len]; exact hi, by simp⟩)⟩
set_option maxRecDepth 100000 in
set_option maxHeartbeats 4000000 in
theorem draw_any {A : Option Addr} {c : Nat} {s : List Int} (w : World) (hC : Kd.C (Kd.int .u8) w A s.length s) (hc : s.length ≤ c) (hs : Bytes s) (hl : s.length ≤ 1048576) :
    Calls Try.prog 21 #[.slice A s.length c] w (Drew w) := by
  have hI0 : IsRd w (w.alloc (.cells #[.slice A s.length c, .int .i64 0] 80)) w.heap.size s := ⟨0, ⟨by omega, by omega⟩, PFnWaits.IsS80.new w w A c s 0 (Below.refl _ _) hC⟩
  have HI := Lib.hid hI0
  have HB : Hid (Below w.heap.size w (w.alloc (.cells #[.slice A s.length c, .int .i64 0] 80))) := Lib.hid (WpJ.balloc (Below.refl _ _) _)
  have HS := Lib.hid hs
  clear hI0 hC hs
  go_enter Try.func21, Try.ntmps21
  go_upto_region 3 with (go_at_call 40; refine (next_any HS.out hl HI.out HB.out).mono ?_; rintro e w1 ⟨k, rfl, hk, hI, hB, hk'⟩; clear HI HB; have HI := Lib.hid hI; have HB := Lib.hid hB; clear hI hB hk')
  go_upto_block 0 with fail
  go_cut [8, 9] (fun s8 s9 wx => (∃ a b : Int, s8 = .int .i64 a ∧ s9 = .int .i64 b) ∧ wx = w1)
  case first =>
    by_cases h1 : 252 ≤ k
    · go_wp2_with fail
      go_meet
      exact ⟨⟨_, _, rfl, rfl⟩, rfl⟩
    · by_cases h2 : 248 ≤ k
      · go_wp2_with fail
        go_meet
        exact ⟨⟨_, _, rfl, rfl⟩, rfl⟩
      · by_cases h3 : 246 ≤ k
        · go_wp2_with fail
          go_meet
          exact ⟨⟨_, _, rfl, rfl⟩, rfl⟩
        · go_wp2_with fail
          go_meet
          exact ⟨⟨_, _, rfl, rfl⟩, rfl⟩
  case rest =>
    obtain ⟨⟨mix, limit, rfl, rfl⟩, rfl⟩ := hcut
    go_upto_region 13 with (go_at_call 40; refine (next_any HS.out hl HI.out HB.out).mono ?_; rintro e w2 ⟨r, rfl, hr, hI, hB, hk'⟩; clear HI HB; have HI := Lib.hid hI; have HB := Lib.hid hB; clear hI hB hk')
    go_upto_if 44 with fail
    go_cut [12] (fun s12 wx => ∃ n : Nat, s12 = .int .i64 n ∧ n ≤ 2001 ∧ Hid (IsRd w wx w.heap.size s) ∧ Hid (Below w.heap.size w wx))
    case first =>
      by_cases h1 : k = 240
      · have h2 : (k == 240) = true := by simpa using h1
        clear h1
        go_wp2_with (go_at_call 40; refine (next_any HS.out hl HI.out HB.out).mono ?_; rintro e w3 ⟨r2, rfl, hr2, hI, hB, hk'⟩; clear HI HB; have HI := Lib.hid hI; have HB := Lib.hid hB; clear hI hB hk')
        go_meet
        exact ⟨(2000 + r2 % 2).toNat, by rw [Int.toNat_of_nonneg (by omega)], by omega, HI, HB⟩
      · have h2 : (k == 240) = false := by simpa using h1
        go_wp2_with fail
        go_meet
        exact ⟨(r % 60).toNat, by rw [Int.toNat_of_nonneg (by omega)], by omega, HI, HB⟩
    case rest =>
      obtain ⟨n, rfl, hn, HI', HB'⟩ := hcut
      clear HI HB
      obtain ⟨g, hg⟩ : ∃ g, w.heap.size = g := ⟨_, rfl⟩
      have HD0 := Lib.hid (dinv_new HI'.out HB'.out)
      clear HI' HB'
      rw [hg] at HD0 ⊢
      go_upto_block 1 with fail
      go_wp2_with fail
      go_loopw [10, 11, 13] (fun vs vd i W => ∃ j : Nat, i = .int .i64 j ∧ j ≤ n ∧ ∃ ds : List Int, ds.length ≤ j ∧ Hid (DInv w g s vs (iota j) vd ds W)) (fun _ _ i _ => n - (intOf i).toNat)
      case atStart => exact ⟨0, rfl, Nat.zero_le _, [], Nat.le_refl _, HD0⟩
      case round =>
        clear HD0
        obtain ⟨j, rfl, hj, ds, hds, HD⟩ := hrel
        have hex := HD.out
        obtain ⟨As, cs, hvs, hcs, _⟩ := Kd.R_reads hex.1
        obtain ⟨Ad, cd, hvd, hcd, _⟩ := Kd.R_reads hex.2.1
        rw [iota_len] at hvs hcs
        subst hvs hvd
        clear hex
        by_cases hlt : j < n
        · have FR := (dinv_fresh HD.out).1
          go_upto_region 19 with ((with_reducible refine gate_dst (N := 57) rfl ?_); at_builtin; refine Kd.R_append (Kd.int .i64) (w0 := w) w.heap.size rfl (.tmp 54) (.tmp 56) 22 3 (.int .i64 0) 8 rfl Try.underlying22 (by kernel_rfl) rfl (by decide) (by omega) (.slice As j cs) (iota j) (j : Int) [.int .i64 (j : Int)] (fun k => k ≠ g ∧ some k ≠ (Value.slice Ad ds.length cd).ownBlock) (fun _ => False) rfl rfl ?aP (fun _ hk => hk.elim) ?aF ?aO ?aB ?aS ?aL ?_; (case aP => exact rfl); (case aF => intro q hq; (try simp at hq); exact FR q (by omega)); (case aO => exact HD.out.1); (case aB => exact HD.out.2.2.2); (case aS => exact HD.out.2.2.2.size); (case aL => have := iota_len j; omega); intro v7 w4 hR7 hB7 hg7 hat7; rw [← iota_succ] at hR7; have HD' := Lib.hid (dinv_slots HD.out hR7 hB7 hg7); clear HD; have HD := HD'; clear HD'; clear hat7 hg7 hR7 hB7)
          clear FR
          obtain ⟨v7', hv7⟩ : ∃ x, v7 = x := ⟨_, rfl⟩
          subst hv7
          have FR := (dinv_fresh HD.out).2
          by_cases c1 : (j : Int) % 3 < 2
          · have key : True := trivial
            go_wp2_with (first | (go_at_call 40; refine (next_any HS.out hl HD.out.2.2.1 HD.out.2.2.2).mono ?_; rintro e w5 ⟨r2, rfl, hr2, hI, hB, hk'⟩; have hz5 := hk'.1; have HD' := Lib.hid (dinv_keep HD.out hk' hI hB); clear HD; have HD := HD'; clear HD'; clear hI hB hk') | ((with_reducible refine gate_dst (N := 71) rfl ?_); at_builtin; refine Kd.R_append (Kd.int .i64) (w0 := w) w.heap.size rfl (.tmp 66) (.tmp 70) 22 3 (.int .i64 0) 8 rfl Try.underlying22 (by kernel_rfl) rfl (by decide) (by omega) (.slice Ad ds.length cd) ds (r2 - 100) [.int .i64 (r2 - 100)] (fun k => k ≠ g ∧ some k ≠ v7.ownBlock) (fun _ => False) rfl rfl ?aP (fun _ hk => hk.elim) ?aF ?aO ?aB ?aS ?aL ?_; (case aP => exact rfl); (case aF => intro q hq; (try simp at hq); exact FR q (by omega)); (case aO => exact HD.out.2.1); (case aB => exact HD.out.2.2.2); (case aS => exact HD.out.2.2.2.size); (case aL => have := iota_len j; omega); intro v8 w6 hR7 hB7 hg7 hat7; have HD' := Lib.hid (dinv_draws HD.out hR7 hB7 hg7); clear HD; have HD := HD'; clear HD'; clear hat7 hg7 hR7 hB7))
            go_roundw
            case rel => exact ⟨j + 1, by go_num, by omega, ds ++ [r2 - 100], by simp; omega, HD⟩
            case measure => simp [intOf]; omega
          · by_cases c2 : k % 2 = 1
            · have c3 : (k % 2 == 1) = true := by simpa using c2
              clear c2
              go_wp2_with (first | (go_at_call 40; refine (next_any HS.out hl HD.out.2.2.1 HD.out.2.2.2).mono ?_; rintro e w5 ⟨r2, rfl, hr2, hI, hB, hk'⟩; have hz5 := hk'.1; have HD' := Lib.hid (dinv_keep HD.out hk' hI hB); clear HD; have HD := HD'; clear HD'; clear hI hB hk') | ((with_reducible refine gate_dst (N := 71) rfl ?_); at_builtin; refine Kd.R_append (Kd.int .i64) (w0 := w) w.heap.size rfl (.tmp 66) (.tmp 70) 22 3 (.int .i64 0) 8 rfl Try.underlying22 (by kernel_rfl) rfl (by decide) (by omega) (.slice Ad ds.length cd) ds (r2 - 100) [.int .i64 (r2 - 100)] (fun k => k ≠ g ∧ some k ≠ v7.ownBlock) (fun _ => False) rfl rfl ?aP (fun _ hk => hk.elim) ?aF ?aO ?aB ?aS ?aL ?_; (case aP => exact rfl); (case aF => intro q hq; (try simp at hq); exact FR q (by omega)); (case aO => exact HD.out.2.1); (case aB => exact HD.out.2.2.2); (case aS => exact HD.out.2.2.2.size); (case aL => have := iota_len j; omega); intro v8 w6 hR7 hB7 hg7 hat7; have HD' := Lib.hid (dinv_draws HD.out hR7 hB7 hg7); clear HD; have HD := HD'; clear HD'; clear hat7 hg7 hR7 hB7))
              go_roundw
              case rel => exact ⟨j + 1, by go_num, by omega, ds ++ [r2 - 100], by simp; omega, HD⟩
              case measure => simp [intOf]; omega
            · have c3 : (k % 2 == 1) = false := by simpa using c2
              clear c2
              go_wp2_with fail
              go_roundw
              case rel => exact ⟨j + 1, by go_num, by omega, ds, by omega, HD⟩
              case measure => simp [intOf]; omega

        · obtain rfl : j = n := by omega
          by_cases c1 : k = 241 ∧ 0 < j
          · obtain ⟨c1, c2⟩ := c1
            have c3 : (k == 241) = true := by simpa using c1
            clear c1
            have c4 : (0 : Int) < (j : Int) := by omega
            obtain ⟨b, cap, e, hb0, _⟩ := Kd.R_form HD.out.1 (by rw [iota_len]; omega)
            rw [iota_len] at e
            simp at e
            obtain ⟨rfl, rfl⟩ := e
            have hq := HD.out.1
            obtain ⟨hc, hf⟩ := Kd.R_celln (0 : Int) hq ((j : Int) / 2) (by omega) (by omega)
            obtain ⟨hR, hG⟩ := Kd.R_putg hq ((j : Int) / 2) (-1 : Int)
            have HN := Lib.hid (dinv_slots HD.out hR (HD.out.2.2.2.setCell hb0 _) hG)
            clear hq hR hG
            have ht : ((j : Int) / 2).toNat = j / 2 := by omega
            rw [ht] at hc hf HN
            have i1 : (j : Int) / 2 < (j : Int) := by omega
            have i2 : 0 ≤ (j : Int) / 2 := by omega
            go_upto_if 77 with fail
            go_wp2
            exact bodyPost_ret (v := .tuple #[.int .i64 mix, .int .i64 limit, .slice (some ⟨b, 0, none⟩) j cs, .slice Ad ds.length cd]) (by simp [results, Try.results21, go_sem]) rfl (drew_of mix limit HN.out (drawn_set hn c2 hds (j / 2) (by omega)))
          · have c3 : ((k == 241) && decide (0 < (j : Int))) = false := by
              rw [Bool.and_eq_false_iff]
              by_cases h : k = 241
              · exact .inr (by simp; omega)
              · exact .inl (by simpa using h)
            go_wp2
            all_goals exact bodyPost_ret (v := .tuple #[.int .i64 mix, .int .i64 limit, .slice As j cs, .slice Ad ds.length cd]) (by simp [results, Try.results21, go_sem]) rfl (drew_of mix limit HD.out (drawn_iota hn hds))
end Go.Proofs.Ytklobepkihdbkaa.Drw
