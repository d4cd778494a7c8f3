/- Marks: the walks that the print leaves out (a store into a row of structs that came in). -/
import Derived.Test.YtklobepkihdbkaaRsP
import Derived.Test.YtklobepkihdbkaaWKept
import Derived.Test.YtklobepkihdbkaaSpR
namespace Go.Proofs.Ytklobepkihdbkaa.Mrk
open Go.RowKit Go.MuLone Go.Proofs.YtklobepkihdbkaaW.PrintWords Go.Proofs.Ytklobepkihdbkaa.PFnExactRunSpace Go.Proofs.Ytklobepkihdbkaa.Ev Go.Proofs.Ytklobepkihdbkaa.RsP Mem SpI
set_option linter.unusedVariables false
set_option linter.unusedSimpArgs false
theorem kept_set {w W : World} {P : Nat → Prop} (h : Kept w W P) {p : Addr} (hp : P p.block) (u : Value) : Kept w (W.setCell p u) P :=
  ⟨by have := h.1; simp only [set_size]; exact this, fun i hi hn => (Below.heap_setCell W p u i (fun e => hn (by rw [e]; exact hp))).trans (h.2 i hi hn)⟩
set_option maxRecDepth 100000 in
set_option maxHeartbeats 4000000 in
theorem markAnswers_is (w0 w : World) (P : Nat → Prop) (v : Value) (l : List An) (hB : Below w0.heap.size w0 w) (hS : Kd.S k54 54 w w0.heap.size P v l) (hn : l.length ≤ 4096) (hb : ∀ x ∈ l, (x.f1.length : Int) ≤ 1048576) :
    Calls Try.prog 54 #[v, .int .i64 1] w fun e w' => e = .returned (.int .i64 (kk l 1 l.length)) ∧ Kd.S k54 54 w' w0.heap.size (fun k => P k ∨ w.heap.size ≤ k) v (stA l 1 l.length) ∧ Below w0.heap.size w0 w' ∧ Kept w w' P := by
  have hok : ∀ k, v.ownBlock = some k → P k := (Kd.S_R hS).1
  obtain ⟨Av, cv, rfl⟩ := Kd.S_slice hS
  have HS0 : Hid (Kd.S k54 54 w w0.heap.size (fun k => P k ∨ w.heap.size ≤ k) (.slice Av l.length cv) (stA l 1 0)) := Lib.hid (by rw [stA_zero]; exact Kd.S_mono hS (fun k hk => .inl hk))
  have HB0 := Lib.hid hB
  have HOK := Lib.hid hok
  have HBD := Lib.hid hb
  have HKT := Lib.hid (Kept.refl w P)
  clear hS hB hok hb
  go_enter Try.func54, Try.ntmps54
  go_wp2
  go_loopw [1, 5] (fun a i W => ∃ j : Nat, a = .int .i64 (kk l 1 j) ∧ i = .int .i64 j ∧ j ≤ l.length ∧ Hid (Kd.S k54 54 W w0.heap.size (fun k => P k ∨ w.heap.size ≤ k) (.slice Av l.length cv) (stA l 1 j)) ∧ Hid (Below w0.heap.size w0 W) ∧ Hid (Kept w W P)) (fun _ i _ => l.length - (intOf i).toNat)
  case atStart => exact ⟨0, rfl, rfl, Nat.zero_le _, HS0, HB0, HKT⟩
  case round =>
    clear HS0 HB0 HKT
    obtain ⟨j, rfl, rfl, hj, HS, HB, HK⟩ := hrel
    by_cases hlt : j < l.length
    · obtain ⟨g, cap, hv, hgb, hgz, _⟩ := Kd.S_form HS.out (by rw [stA_len]; omega)
      rw [stA_len] at hv
      cases hv
      obtain ⟨oki, c, hcl, hM, hcc, hfr, hoki, hH⟩ := Kd.S_elem HS.out zA (j : Int) (by omega) (by omega)
      rw [Int.toNat_natCast, stA_at _ _ _ _ hlt, if_neg (by omega)] at hM
      obtain ⟨v1, rfl, hR1⟩ := k54_openM hM
      obtain ⟨x, hx⟩ : ∃ x, l.getD j zA = x := ⟨_, rfl⟩
      have hsz : (k54).sz = 2 := rfl
      have hxb : (x.f1.length : Int) ≤ 1048576 := by rw [← hx]; exact HBD.out _ (getD_mem hlt)
      have hkl := kk_le l 1 1048576 HBD.out (by omega) j hj
      have hks : kk l 1 (j + 1) = kk l 1 j + 1 + (x.f1.length : Int) := by rw [kk, hx]
      have hss := stA_succ l 1 j
      rw [hx] at hR1 hss
      obtain ⟨q, hq⟩ : ∃ q, kk l 1 j = q := ⟨_, rfl⟩
      rw [hq] at hkl hks hss ⊢
      have c0 := hcc 0 _ rfl
      have c1 := hcc 1 _ rfl
      have f0 := hfr 0
      rw [hsz, Int.toNat_natCast] at c0 c1 f0
      rw [Nat.add_zero] at c0 f0
      have hq1 : IntKind.i64.wrap (q + 1) = q + 1 := by rw [IntKind.wrap_i64]; omega
      obtain ⟨hH4, hg4⟩ := Kd.H_seg hH (by omega) (by omega) (seg := [.int .i64 q]) (j := 0) (by rw [hsz]; exact Nat.le_succ 1) (by intro u hu; simp at hu; subst hu; rfl)
      have hH4' : Kd.H k54 54 (wr.setCell ⟨g, j * 2, none⟩ (.int .i64 q)) w0.heap.size (fun k => P k ∨ w.heap.size ≤ k) (.slice (some ⟨g, 0, none⟩) l.length cv) (stA l 1 j) (j : Int) oki [.int .i64 q, v1] := hH4
      have hR4 := Kd.R_far hR1 (p := ⟨g, j * 2, none⟩) (fun k hk => (hoki k hk).2) (.int .i64 q)
      have hB4 : Below w0.heap.size w0 (wr.setCell ⟨g, j * 2, none⟩ (.int .i64 q)) := below_set HB.out hgb
      obtain ⟨K, hK⟩ := Ev.rounds (markB_f x.f1 (q + 1) (by omega) (by omega))
      have HC := Lib.hid (laws_markByteS.calls K oki v1 x.f1 (q + 1) _ _ w0 _ hB4 hR4 hK)
      have HH4 := Lib.hid hH4'
      have HR4 := Lib.hid hR4
      have HK4 := Lib.hid (kept_set HK.out (p := ⟨g, j * 2, none⟩) (HOK.out g rfl) (.int .i64 q))
      have HOI := Lib.hid hoki
      have HSS := Lib.hid hss
      have HKS := Lib.hid hks
      clear hK hB4 hR4 hH4' hH4 hg4 hH hM hR1 hcc hfr hoki hss hks hcl hx hsz hq hxb
      go_wp2_with (go_at_call 53; refine HC.out.mono ?_; rintro e w5 ⟨rfl, hR5, hB5, hK5⟩; have HR5 := Lib.hid hR5; have HB5 := Lib.hid hB5; have HK5 := Lib.hid hK5; clear hR5 hB5 hK5; rw [← HKS.out])
      have hM5 : k54.M w5 w0.heap.size oki (mkA x q) [.int .i64 q, v1] := k54_mkM _ _ _ (mkA x q) (Kd.R_mono (Kd.R_tight rfl HR5.out) (fun k hk => HR4.out.1 k hk.symm))
      have hS5 := Kd.H_back (Kd.H_step HH4.out (fun k _ hnk hlt => HK5.out.2 k hlt hnk)) hM5 (fun _ h => h)
      rw [Int.toNat_natCast, HSS.out] at hS5
      have HS5 := Lib.hid hS5
      have HKK := Lib.hid (HK4.out.then_ HK5.out (fun k hk => (HOI.out k hk).1))
      clear hM5 hS5 c0 c1 f0
      go_roundw
      case rel => exact ⟨j + 1, rfl, by go_num, by omega, HS5, HB5, HKK⟩
      case measure => simp [intOf]; omega
    · obtain rfl : l.length = j := by omega
      go_wp2
      go_ret
      exact ⟨rfl, HS.out, HB.out, HK.out⟩
set_option maxRecDepth 100000 in
set_option maxHeartbeats 4000000 in
theorem markOps_is (w0 w : World) (P : Nat → Prop) (v : Value) (l : List So) (hB : Below w0.heap.size w0 w) (hS : Kd.S k52 52 w w0.heap.size P v l) (hn : l.length ≤ 1048576) (hb : ∀ x ∈ l, x.f5.length ≤ 1048576) :
    Calls Try.prog 31 #[v, .int .i64 1] w fun e w' => ∃ r : Int, 0 ≤ r ∧ e = .returned (.int .i64 r) ∧ Below w0.heap.size w0 w' ∧ Kept w w' P := by
  have hok : ∀ k, v.ownBlock = some k → P k := (Kd.S_R hS).1
  obtain ⟨Av, cv, rfl⟩ := Kd.S_slice hS
  obtain ⟨n, hnl⟩ : ∃ n, l.length = n := ⟨_, rfl⟩
  rw [hnl] at hS hok hn ⊢
  have HS0 : Hid (Kd.S k52 52 w w0.heap.size (fun k => P k ∨ w.heap.size ≤ k) (.slice Av n cv) l) := Lib.hid (Kd.S_mono hS (fun k hk => .inl hk))
  have HB0 := Lib.hid hB
  have HOK := Lib.hid hok
  have HBD : Hid (∀ i : Nat, i < n → (l.getD i zO).f5.length ≤ 1048576) := Lib.hid (fun i hi => hb _ (getD_mem (by omega)))
  have HNL := Lib.hid hnl
  have HKT := Lib.hid (Kept.refl w P)
  clear hS hB hok hb hnl
  go_enter Try.func31, Try.ntmps31
  go_wp2
  go_loopw [1, 5] (fun a i W => ∃ (j : Nat) (q : Int) (ys : List So), a = .int .i64 q ∧ i = .int .i64 j ∧ j ≤ n ∧ 1 ≤ q ∧ q ≤ 1 + (j : Int) * 1048600 ∧ Hid (ys.length = n) ∧ Hid (∀ i : Nat, i < n → (ys.getD i zO).f5.length ≤ 1048576) ∧ Hid (Kd.S k52 52 W w0.heap.size (fun k => P k ∨ w.heap.size ≤ k) (.slice Av n cv) ys) ∧ Hid (Below w0.heap.size w0 W) ∧ Hid (Kept w W P)) (fun _ i _ => n - (intOf i).toNat)
  case atStart => exact ⟨0, 1, l, rfl, rfl, Nat.zero_le _, by omega, by omega, HNL, HBD, HS0, HB0, HKT⟩
  case round =>
    clear HS0 HB0 HKT HBD HNL
    obtain ⟨j, q, ys, rfl, rfl, hj, hq0, hqb, HNL, HBD, HS, HB, HK⟩ := hrel
    by_cases hlt : j < n
    · obtain ⟨g, cap, hv, hgb, hgz, _⟩ := Kd.S_form HS.out (by rw [HNL.out]; omega)
      rw [HNL.out] at hv
      cases hv
      obtain ⟨oki, c, hcl, hM, hcc, hfr, hoki, hH⟩ := Kd.S_elem HS.out zO (j : Int) (by omega) (by omega)
      rw [Int.toNat_natCast] at hM
      obtain ⟨x, hx⟩ : ∃ x, ys.getD j zO = x := ⟨_, rfl⟩
      rw [hx] at hM
      obtain ⟨v1, rfl, hR1⟩ := k52_openM hM
      have hsz : (k52).sz = 6 := rfl
      have hxb : x.f5.length ≤ 1048576 := by rw [← hx]; exact HBD.out j hlt
      have c0 := hcc 0 _ rfl
      have c1 := hcc 1 _ rfl
      have c2 := hcc 2 _ rfl
      have c3 := hcc 3 _ rfl
      have c4 := hcc 4 _ rfl
      have c5 := hcc 5 _ rfl
      have f0 := hfr 0
      have f1 := hfr 1
      have f2 := hfr 2
      have f3 := hfr 3
      have f4 := hfr 4
      rw [hsz, Int.toNat_natCast] at c0 c1 c2 c3 c4 c5 f0 f1 f2 f3 f4
      rw [Nat.add_zero] at c0 f0
      have hqm : q ≤ 4000000000000 := by omega
      have hq1 : IntKind.i64.wrap (q + 1) = q + 1 := by rw [IntKind.wrap_i64]; omega
      have hq2 : IntKind.i64.wrap (q + 1 + 1) = q + 1 + 1 := by rw [IntKind.wrap_i64]; omega
      have hq3 : IntKind.i64.wrap (q + 1 + 1 + 1) = q + 1 + 1 + 1 := by rw [IntKind.wrap_i64]; omega
      have hq4 : IntKind.i64.wrap (q + 1 + 1 + 1 + 1) = q + 1 + 1 + 1 + 1 := by rw [IntKind.wrap_i64]; omega
      have hq5 : IntKind.i64.wrap (q + 1 + 1 + 1 + 1 + 1) = q + 1 + 1 + 1 + 1 + 1 := by rw [IntKind.wrap_i64]; omega
      have hu3 : IntKind.u64.wrap (q + 1 + 1 + 1) = q + 1 + 1 + 1 := by rw [IntKind.wrap_u64]; omega
      obtain ⟨hH4, hg4⟩ := Kd.H_seg hH (by omega) (by omega) (seg := [.int .i64 q, .int .i64 (q + 1), .int .i64 (q + 1 + 1), .int .u64 (q + 1 + 1 + 1), .int .i64 (q + 1 + 1 + 1 + 1)]) (j := 0) (by rw [hsz]; exact Nat.le_succ 5) (by intro u hu; simp at hu; rcases hu with rfl | rfl | rfl | rfl | rfl <;> rfl)
      have hH4' : Kd.H k52 52 (((((wr.setCell ⟨g, j * 6, none⟩ (.int .i64 q)).setCell ⟨g, j * 6 + 1, none⟩ (.int .i64 (q + 1))).setCell ⟨g, j * 6 + 2, none⟩ (.int .i64 (q + 1 + 1))).setCell ⟨g, j * 6 + 3, none⟩ (.int .u64 (q + 1 + 1 + 1))).setCell ⟨g, j * 6 + 4, none⟩ (.int .i64 (q + 1 + 1 + 1 + 1))) w0.heap.size (fun k => P k ∨ w.heap.size ≤ k) (.slice (some ⟨g, 0, none⟩) n cv) ys (j : Int) oki [.int .i64 q, .int .i64 (q + 1), .int .i64 (q + 1 + 1), .int .u64 (q + 1 + 1 + 1), .int .i64 (q + 1 + 1 + 1 + 1), v1] := hH4
      have hne : ∀ k, oki k → k ≠ g := fun k hk => (hoki k hk).2
      have hR4 := Kd.R_far (Kd.R_far (Kd.R_far (Kd.R_far (Kd.R_far hR1 (p := ⟨g, j * 6, none⟩) hne (.int .i64 q)) (p := ⟨g, j * 6 + 1, none⟩) hne (.int .i64 (q + 1))) (p := ⟨g, j * 6 + 2, none⟩) hne (.int .i64 (q + 1 + 1))) (p := ⟨g, j * 6 + 3, none⟩) hne (.int .u64 (q + 1 + 1 + 1))) (p := ⟨g, j * 6 + 4, none⟩) hne (.int .i64 (q + 1 + 1 + 1 + 1))
      have hB4 : Below w0.heap.size w0 (((((wr.setCell ⟨g, j * 6, none⟩ (.int .i64 q)).setCell ⟨g, j * 6 + 1, none⟩ (.int .i64 (q + 1))).setCell ⟨g, j * 6 + 2, none⟩ (.int .i64 (q + 1 + 1))).setCell ⟨g, j * 6 + 3, none⟩ (.int .u64 (q + 1 + 1 + 1))).setCell ⟨g, j * 6 + 4, none⟩ (.int .i64 (q + 1 + 1 + 1 + 1))) := below_set (below_set (below_set (below_set (below_set HB.out hgb) hgb) hgb) hgb) hgb
      obtain ⟨K, hK⟩ := Ev.rounds (markB_f x.f5 (q + 1 + 1 + 1 + 1 + 1) (by omega) (by omega))
      have HC := Lib.hid (laws_markByteS.calls K oki v1 x.f5 (q + 1 + 1 + 1 + 1 + 1) _ _ w0 _ hB4 hR4 hK)
      have HH4 := Lib.hid hH4'
      have HR4 := Lib.hid hR4
      have hP := HOK.out g rfl
      have HK4 := Lib.hid (kept_set (kept_set (kept_set (kept_set (kept_set HK.out (p := ⟨g, j * 6, none⟩) hP (.int .i64 q)) (p := ⟨g, j * 6 + 1, none⟩) hP (.int .i64 (q + 1))) (p := ⟨g, j * 6 + 2, none⟩) hP (.int .i64 (q + 1 + 1))) (p := ⟨g, j * 6 + 3, none⟩) hP (.int .u64 (q + 1 + 1 + 1))) (p := ⟨g, j * 6 + 4, none⟩) hP (.int .i64 (q + 1 + 1 + 1 + 1)))
      have HOI := Lib.hid hoki
      clear hK hB4 hR4 hH4' hH4 hg4 hH hM hR1 hcc hfr hoki hcl hx hsz hne hP
      go_wp2_with (go_at_call 53; refine HC.out.mono ?_; rintro e w5 ⟨rfl, hR5, hB5, hK5⟩; have HR5 := Lib.hid hR5; have HB5 := Lib.hid hB5; have HK5 := Lib.hid hK5; clear hR5 hB5 hK5)
      have hM5 : k52.M w5 w0.heap.size oki (⟨q, q + 1, q + 1 + 1, q + 1 + 1 + 1, q + 1 + 1 + 1 + 1, st gB x.f5 (q + 1 + 1 + 1 + 1 + 1) x.f5.length⟩ : So) [.int .i64 q, .int .i64 (q + 1), .int .i64 (q + 1 + 1), .int .u64 (q + 1 + 1 + 1), .int .i64 (q + 1 + 1 + 1 + 1), v1] := k52_mkM _ _ _ (⟨q, q + 1, q + 1 + 1, q + 1 + 1 + 1, q + 1 + 1 + 1 + 1, st gB x.f5 (q + 1 + 1 + 1 + 1 + 1) x.f5.length⟩ : So) (Kd.R_mono (Kd.R_tight rfl HR5.out) (fun k hk => HR4.out.1 k hk.symm))
      have hS5 := Kd.H_back (Kd.H_step HH4.out (fun k _ hnk hlt => HK5.out.2 k hlt hnk)) hM5 (fun _ h => h)
      rw [Int.toNat_natCast] at hS5
      have HS5 := Lib.hid hS5
      have HNL5 : Hid ((ys.set j (⟨q, q + 1, q + 1 + 1, q + 1 + 1 + 1, q + 1 + 1 + 1 + 1, st gB x.f5 (q + 1 + 1 + 1 + 1 + 1) x.f5.length⟩ : So)).length = n) := Lib.hid (by rw [List.length_set]; exact HNL.out)
      have HBD5 : Hid (∀ i : Nat, i < n → ((ys.set j (⟨q, q + 1, q + 1 + 1, q + 1 + 1 + 1, q + 1 + 1 + 1 + 1, st gB x.f5 (q + 1 + 1 + 1 + 1 + 1) x.f5.length⟩ : So)).getD i zO).f5.length ≤ 1048576) := Lib.hid (fun i hi => by
        rw [List.getD_eq_getElem?_getD, List.getElem?_set]
        by_cases e : j = i
        · subst e
          rw [if_pos rfl, if_pos (by rw [HNL.out]; exact hi)]
          simp only [Option.getD_some, st_len]
          exact hxb
        · rw [if_neg e, ← List.getD_eq_getElem?_getD]
          exact HBD.out i hi)
      have HKK := Lib.hid (HK4.out.then_ HK5.out (fun k hk => (HOI.out k hk).1))
      clear hM5 hS5 c0 c1 c2 c3 c4 c5 f0 f1 f2 f3 f4
      go_roundw
      case rel => exact ⟨j + 1, _, _, rfl, by go_num, by omega, by omega, by omega, HNL5, HBD5, HS5, HB5, HKK⟩
      case measure => simp [intOf]; omega
    · obtain rfl : n = j := by omega
      go_wp2
      go_ret
      exact ⟨q, by omega, rfl, HB.out, HK.out⟩
set_option maxRecDepth 100000 in
set_option maxHeartbeats 4000000 in
theorem markReport_is (w0 w : World) (P Q : Nat → Prop) (ok : Bool) (va vo : Value) (cm : Int) (l : List An) (op : List Int) (hB : Below w0.heap.size w0 w) (hS : Kd.S k54 54 w w0.heap.size P va l) (hR : (Kd.int .i64).R 3 w w0.heap.size Q vo op) (hPQ : ∀ k, P k → ¬ Q k) (hn : l.length ≤ 4096) (hb : ∀ x ∈ l, (x.f1.length : Int) ≤ 1048576) (ho : op.length ≤ 4096) :
    Calls Try.prog 32 #[.agg #[.bool ok, va, .int .i64 cm, vo], .int .i64 1] w fun e w' => e = .returned (.int .i64 (kk l 1 l.length + op.length)) ∧ Kd.S k54 54 w' w0.heap.size (fun _ => True) va (stA l 1 l.length) ∧ (Kd.int .i64).R 3 w' w0.heap.size (fun _ => True) vo (st gI op (kk l 1 l.length) op.length) ∧ Below w0.heap.size w0 w' ∧ Kept w w' (fun k => P k ∨ Q k) := by
  have hkl := kk_le l 1 1048576 hb (by omega) l.length (Nat.le_refl _)
  have hwz := hB.size
  have hS1 := Kd.S_mono (Kd.S_bound hS) (ok' := fun k => P k ∧ k < w.heap.size) (fun k hk => ⟨hk.1, hk.2.2.1⟩)
  have hQb : ∀ k, some k = vo.ownBlock → Q k ∧ k < w.heap.size := fun k hk => ⟨hR.1 k hk.symm, Kd.R_lt hR k hk.symm⟩
  have hR1 := Kd.R_tight rfl hR
  obtain ⟨Aa, ca, rfl⟩ := Kd.S_slice hS
  obtain ⟨Ao, co, rfl⟩ := Kd.R_slice hR
  obtain ⟨w1, hw1⟩ : ∃ x, w.alloc (.cells #[.bool ok, .slice Aa l.length ca, .int .i64 cm, .slice Ao op.length co] 48) = x := ⟨_, rfl⟩
  have hb1 := alloc_new w (.cells #[.bool ok, .slice Aa l.length ca, .int .i64 cm, .slice Ao op.length co] 48)
  have hS2 := Kd.S_alloc hS1 (.cells #[.bool ok, .slice Aa l.length ca, .int .i64 cm, .slice Ao op.length co] 48)
  have hR2 := Kd.R_alloc hR1 (.cells #[.bool ok, .slice Aa l.length ca, .int .i64 cm, .slice Ao op.length co] 48)
  have hz1 : w1.heap.size = w.heap.size + 1 := by rw [← hw1]; simp
  have hB1 : Below w0.heap.size w0 (w.alloc (.cells #[.bool ok, .slice Aa l.length ca, .int .i64 cm, .slice Ao op.length co] 48)) := below_alloc hB _
  have hK1 : Kept w (w.alloc (.cells #[.bool ok, .slice Aa l.length ca, .int .i64 cm, .slice Ao op.length co] 48)) (fun k => P k ∨ Q k) := ⟨by simp, fun i hi _ => alloc_old (Array.getElem?_eq_getElem hi) _ |>.trans (Array.getElem?_eq_getElem hi).symm⟩
  rw [hw1] at hb1 hS2 hR2 hB1 hK1
  have HW1 := Lib.hid hw1
  have HMA := Lib.hid (markAnswers_is w0 w1 _ _ l hB1 hS2 hn hb)
  obtain ⟨K, hK⟩ := Ev.rounds (markI_f op (kk l 1 l.length) (by omega) (by omega))
  have HKI := Lib.hid hK
  have HB1 := Lib.hid hb1
  have HR2 := Lib.hid hR2
  have HQB := Lib.hid hQb
  have HPQ := Lib.hid hPQ
  have HK1 := Lib.hid hK1
  have HZ1 := Lib.hid hz1
  have k1 := bcell hb1 1
  simp only [List.getElem?_toArray, List.getElem?_cons_succ, List.getElem?_cons_zero] at k1
  obtain ⟨q, hq⟩ : ∃ q, kk l 1 l.length = q := ⟨_, rfl⟩
  rw [hq] at HMA HKI hkl ⊢
  clear hq hw1 hS hR hS1 hR1 hS2 hR2 hB1 hB hK hb1 hQb hPQ hK1 hz1
  go_enter Try.func32, Try.ntmps32
  go_wp2_with (first | (rw [HW1.out]; go_at_call 54; refine HMA.out.mono ?_; rintro e w2 ⟨rfl, hS3, hB3, hK3⟩; have HS3 := Lib.hid hS3; have HB3 := Lib.hid hB3; have HK3 := Lib.hid hK3; have hb2 := (HK3.out.2 _ (lt_of HB1.out) (fun e => Nat.lt_irrefl _ e.2)).trans HB1.out; have k3 := bcell hb2 3; simp only [List.getElem?_toArray, List.getElem?_cons_succ, List.getElem?_cons_zero] at k3; clear hS3 hB3 hK3 hb2) | (go_at_call 19; refine (laws_markIntS.calls K (fun k => some k = (Value.slice Ao op.length co).ownBlock) _ op q _ _ w0 w2 HB3.out (Kd.R_step HR2.out (fun k hk hlt => HK3.out.2 k hlt (fun e => HPQ.out k e.1 (HQB.out k hk).1))) HKI.out).mono ?_; rintro e w3 ⟨rfl, hR4, hB4, hK4⟩; have HR4 := Lib.hid hR4; have HB4 := Lib.hid hB4; have HK4 := Lib.hid hK4; clear hR4 hB4 hK4))
  go_ret
  refine ⟨rfl, Kd.S_mono (Kd.S_step HS3.out (fun k hk hlt => HK4.out.2 k hlt (fun e => ?_))) (fun _ _ => trivial), Kd.R_mono HR4.out (fun _ _ => trivial), HB4.out, ?_⟩
  · obtain ⟨h1, h2⟩ := HQB.out k e
    rcases hk with hk | hk
    · exact HPQ.out k hk.1 h1
    · have := HZ1.out; omega
  · exact (HK1.out.then_ HK3.out (fun k hk => .inl (.inl hk.1))).then_ HK4.out (fun k hk => .inl (.inr (HQB.out k hk).1))
end Go.Proofs.Ytklobepkihdbkaa.Mrk
