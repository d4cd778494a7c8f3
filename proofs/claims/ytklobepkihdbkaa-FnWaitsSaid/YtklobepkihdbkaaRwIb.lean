/- The program's RunWaiting. -/
import Derived.Test.YtklobepkihdbkaaRw
namespace Go.Proofs.Ytklobepkihdbkaa.RwIb
open Go.RowKit Go.Proofs.YtklobepkihdbkaaW.PrintWords Go.Proofs.YtklobepkihdbkaaW.PrintLast Go.Proofs.YtklobepkihdbkaaW.PrintMore Wp WpG WpI WpJ WpS Rw
set_option linter.unusedVariables false
set_option linter.unusedSimpArgs false
def runOk (mix limit : Int) (slots : List Int) : Prop := 0 ≤ mix ∧ mix ≤ 16 ∧ 1 ≤ limit ∧ limit ≤ 32 ∧ slots.length ≤ 2000 ∧ ∀ x ∈ slots, 0 ≤ x
set_option maxRecDepth 100000 in
set_option maxHeartbeats 4000000 in
theorem run_bad {As Ad : Option Addr} {cs cd : Nat} {slots draws : List Int} {mix limit : Int} (w : World) (hs : (Kd.int .i64).C w As slots.length slots) (hcs : slots.length ≤ cs) (hsl : slots.length ≤ 1048576) (hg : ¬ runOk mix limit slots) :
    Calls Try.prog 17 #[.int .i64 mix, .int .i64 limit, .slice As slots.length cs, .slice Ad draws.length cd] w fun e w' => e = .returned (.tuple #[.slice none 0 0, .bool false]) ∧ Below w.heap.size w w' := by
  have HS := Lib.hid hs
  have HG := Lib.hid hg
  clear hs hg
  by_cases c1 : mix < 0 ∨ 16 < mix ∨ 2000 < slots.length
  · have key : (decide (mix < 0) || decide (16 < mix) || decide (2000 < (slots.length : Int))) = true := by
      simp only [Bool.or_eq_true, decide_eq_true_eq]
      omega
    go_enter Try.func17, Try.ntmps17
    go_wp2
    all_goals exact bodyPost_ret (v := .tuple #[.slice none 0 0, .bool false]) (by simp [results, Try.results17, go_sem]) rfl ⟨rfl, Below.refl _ _⟩
  obtain ⟨m, rfl⟩ := Int.eq_ofNat_of_zero_le (show 0 ≤ mix by omega)
  have hm : m ≤ 16 := by omega
  have hn : slots.length ≤ 2000 := by omega
  clear c1
  have HN := Lib.hid (impl_new_is m hm limit)
  obtain ⟨b, hb, hbi⟩ := impl_good_is (List.replicate m (-1)) [] limit (by simp; omega) (by simp) _ (Nat.le_refl _)
  rw [List.length_replicate] at hb
  have HGD := Lib.hid hb
  have HBI := Lib.hid hbi
  clear hb hbi
  go_enter Try.func17, Try.ntmps17
  go_wp2_with fail
  refine (PFnExactRunWaiting.impl_newWaiting.calls _ _ _ _ _ _ _ HN.out).mono ?_
  rintro e w1 ⟨v1, v2, rfl, hR1, hR2, hB1⟩
  obtain ⟨A1, c1, A2, c2, rfl, rfl, hc1, hI⟩ := rinv_new (limit := limit) (slots := slots) (draws := draws) hR1 hR2 hB1
  have hC1 := (Kd.R_reads' hR1).2.2
  have hC2 := (Kd.R_reads' hR2).2.2
  have HC1 := Lib.hid hC1
  have HC2 := Lib.hid hC2
  have HB1 := Lib.hid hB1
  have HI := Lib.hid hI
  clear hR1 hR2 hC1 hC2 hB1 hI
  obtain ⟨g, hg⟩ : ∃ g, w1.heap.size = g := ⟨_, rfl⟩
  have hk0 : (w1.alloc (.cells #[.slice A1 m c1, .slice A2 0 c2, .int .i64 limit] 26)).cell? ⟨g, 0, none⟩ = some (.slice A1 m c1) := by rw [← hg]; exact blk_cell (heap_alloc_new w1 _) 0
  have hk1 : (w1.alloc (.cells #[.slice A1 m c1, .slice A2 0 c2, .int .i64 limit] 26)).cell? ⟨g, 1, none⟩ = some (.slice A2 0 c2) := by rw [← hg]; exact blk_cell (heap_alloc_new w1 _) 1
  have hk2 : (w1.alloc (.cells #[.slice A1 m c1, .slice A2 0 c2, .int .i64 limit] 26)).cell? ⟨g, 2, none⟩ = some (.int .i64 limit) := by rw [← hg]; exact blk_cell (heap_alloc_new w1 _) 2
  rw [hg] at HI
  go_upto_region 4 with fail
  obtain ⟨w2, hw2⟩ : ∃ x, w1.alloc (.cells #[.slice A1 m c1, .slice A2 0 c2, .int .i64 limit] 26) = x := ⟨_, rfl⟩
  have HD1 := Lib.hid (Kd.C_alloc HC1.out (.cells #[.slice A1 m c1, .slice A2 0 c2, .int .i64 limit] 26))
  have HD2 := Lib.hid (Kd.C_alloc HC2.out (.cells #[.slice A1 m c1, .slice A2 0 c2, .int .i64 limit] 26))
  rw [hw2] at hk0 hk1 hk2 HI HD1 HD2 ⊢
  clear HC1 HC2
  have hgl : g < w2.heap.size := by rw [← hw2, ← hg]; simp
  have hgc : ∀ W, (Kd.int .i64).C W A1 m (List.replicate m (-1)) → (Kd.int .i64).C W A2 0 [] → Calls Try.prog 37 #[.agg #[.slice A1 m c1, .slice A2 0 c2, .int .i64 limit]] W fun e w' => e = .returned (.bool b) ∧ Below W.heap.size W w' := fun W h1 h2 => by
    have hl : (List.replicate m (-1 : Int)).length = m := List.length_replicate
    obtain ⟨xs, hxs⟩ : ∃ xs, List.replicate m (-1 : Int) = xs := ⟨_, rfl⟩
    have hG := HGD.out
    rw [hxs] at h1 hl hG
    subst hl
    exact PFnExactWaitPush.impl_good.calls _ A1 c1 xs A2 c2 [] limit b W h1 hc1 h2 (Nat.zero_le _) hG
  have HGC := Lib.hid (hgc w2 (by have := HD1.out; rw [List.length_replicate] at this; exact this) HD2.out)
  clear hgc HD1 HD2
  go_wp2_with fail
  refine HGC.out.mono ?_
  rintro e w3 ⟨rfl, hw3⟩
  have HB3 := Lib.hid (HI.out.below hw3).B
  clear HI HGC hw3 hk0 hk1 hk2
  cases b with
  | false =>
    go_wp2
    exact bodyPost_ret (v := .tuple #[.slice none 0 0, .bool false]) (by simp [results, Try.results17, go_sem]) rfl ⟨rfl, HB3.out⟩
  | true =>
    have hgw := HBI.out.1 rfl
    have hneg : ¬ ∀ x ∈ slots, 0 ≤ x := fun h => HG.out ⟨by omega, by omega, hgw.limLo, hgw.limHi, hn, h⟩
    clear hgw
    go_wp2_with fail
    go_loopw [37] (fun i wr => ∃ j : Nat, i = .int .i64 j ∧ j ≤ slots.length ∧ (∀ i : Nat, i < j → 0 ≤ slots.getD i 0) ∧ wr = w3) (fun i _ => slots.length - (intOf i).toNat)
    case atStart => exact ⟨0, rfl, Nat.zero_le _, fun i hi => by omega, rfl⟩
    case round =>
      obtain ⟨j, rfl, hj, hall, rfl⟩ := hrel
      by_cases hlt : j < slots.length
      · obtain ⟨ad, had, hcx⟩ := Kd.at_int (Kd.C_below HS.out HB3.out) (j : Int) (by omega) (by omega)
        rw [Int.toNat_natCast, show rd slots (j : Int) = slots.getD j 0 from rd_getD slots j] at hcx
        subst had
        obtain ⟨x, hx⟩ : ∃ x, slots.getD j 0 = x := ⟨_, rfl⟩
        rw [hx] at hcx
        have HA := Lib.hid hall
        clear hall hneg
        by_cases hx1 : x < 0
        · go_wp2
          exact bodyPost_ret (v := .tuple #[.slice none 0 0, .bool false]) (by simp [results, Try.results17, go_sem]) rfl ⟨rfl, HB3.out⟩
        · go_wp2_with fail
          go_roundw
          case rel => exact ⟨j + 1, by go_num, by omega, (fun i hi => by
            by_cases h : i = j
            · subst h; omega
            · exact HA.out i (by omega)), trivial⟩
          case measure => simp [intOf]; omega

      · refine absurd (fun x hx => ?_) hneg
        obtain ⟨i, hi, rfl⟩ := List.getElem_of_mem hx
        have := hall i (by omega)
        rw [List.getD_eq_getElem?_getD, List.getElem?_eq_getElem hi] at this
        exact this
end Go.Proofs.Ytklobepkihdbkaa.RwIb
