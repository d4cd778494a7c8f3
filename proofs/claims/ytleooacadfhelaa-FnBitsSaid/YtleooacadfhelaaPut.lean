/- BitsPut of the program: the bitmap with a bit on or off. -/
import Derived.Test.YtleooacadfhelaaPFnExactBitsHasx
import Derived.Test.YtleooacadfhelaaBitFns
import Derived.Test.YtleooacadfhelaaBits
import Derived.RegionTactic
import Derived.ChangeAlike
import Derived.Laws.CopyOwn
import Derived.IntWalk
namespace Go.Proofs.Ytleooacadfhelaa.Put
open Go.RowKit Go.Proofs.YtleooacadfhelaaW.PrintWords Go.Proofs.YtleooacadfhelaaW.PrintLast Go.Proofs.YtleooacadfhelaaW.PrintMore Go.Proofs.Ytleooacadfhelaa.PFnExactBitsHas BitF
set_option linter.unusedVariables false
set_option linter.unusedSimpArgs false
def mask (i : Int) : Int := IntKind.u64.wrap (2 ^ (i % 64).toNat)
def offw (x i : Int) : Int := Go.bits .andNot .u64 x (mask i)
def onw (x i : Int) : Int := Go.bits .or .u64 (offw x i) (mask i)
def putw (l : List Int) (i : Int) (on : Bool) : List Int := l.set (i / 64).toNat (if on then onw (rd l (i / 64)) i else offw (rd l (i / 64)) i)
theorem made_form {n : Nat} {w0 : Nat} {W : World} {v : Value} {e : Nat} (h : (Kd.int .u64).R e W w0 (fun _ => True) v (List.replicate (n : Int).toNat 0)) (hn : 0 < n) :
    ∃ g cap cur, v = .slice (some ⟨g, 0, none⟩) n cap ∧ w0 ≤ g ∧ W.heap[g]? = some (.cells (List.toArray cur) e (0, 0)) ∧ (n ≤ cap ∧ cap ≤ maxLen) ∧ cur.length = cap := by
  obtain ⟨_, h2⟩ := Kd.own_of_R h
  rcases h2 with ⟨_, h2⟩ | ⟨g, cap, cur, rfl, hg, hh, hc, hm, hs, _⟩
  · simp at h2
    omega
  · simp at hc
    exact ⟨g, cap, cur.toList, by simp, hg, by simpa using hh, ⟨by omega, hm⟩, by simp at hs; simpa using hs⟩
theorem words_at {w : World} {A : Option Addr} {l : List Int} (h : Kd.C (Kd.int .u64) w A l.length l) (hp : 0 < l.length) : ∃ ad, A = some ad ∧ ∀ j v, (nums .u64 l)[j]? = some v → w.cell? (ad.add j) = some v := by
  obtain ⟨_, _, h3⟩ := Kd.reads_of_C (d := (0 : Int)) h
  obtain ⟨ad, e, hc⟩ := h3 hp
  refine ⟨ad, e, fun j v hv => ?_⟩
  unfold nums at hv
  rw [List.getElem?_map] at hv
  obtain ⟨x, hx, rfl⟩ := Option.map_eq_some_iff.1 hv
  obtain ⟨hl, hx'⟩ := List.getElem?_eq_some_iff.1 hx
  have := hc j hl
  rw [List.getD_eq_getElem?_getD, hx] at this
  exact this
theorem spliced {w0 g cap e : Nat} {W : World} {cur : List Value} {l : List Int} (hg : w0 ≤ g) (hc : l.length ≤ cap ∧ cap ≤ maxLen) (hs : cur.length = cap) (hh : W.heap[g]? = some (.cells (splice cur 0 (nums .u64 l)).toArray e (0, 0))) :
    (Kd.int .u64).R e W w0 (fun _ => True) (.slice (some ⟨g, 0, none⟩) l.length cap) l := by
  refine Kd.R_of_own ⟨by simp [encs], .inr ⟨g, cap, _, rfl, hg, hh, hc.1, hc.2, ?_, ?_⟩⟩ (fun _ _ => trivial)
  · rw [List.size_toArray, length_splice _ _ _ (by simp [nums]; omega), hs]
    omega
  · simp [splice, nums, encs]
set_option maxRecDepth 100000 in
set_option maxHeartbeats 4000000 in
theorem put_good (A : Option Addr) (c : Nat) (l : List Int) (nn i : Int) (on : Bool) (w : World) (hC : Kd.C (Kd.int .u64) w A l.length l) (hc : l.length ≤ c) (hl : Words l) (hg : GoodB l nn) (h0 : 0 ≤ i) (h1 : i < nn) :
    Calls Try.prog 20 #[.slice A l.length c, .int .i64 nn, .int .i64 i, .bool on] w fun e w' => ∃ v0 : Value, e = .returned (.tuple #[v0, .bool true]) ∧ Kd.R (Kd.int .u64) 39 w' w.heap.size (fun _ => True) v0 (putw l i on) ∧ Below w.heap.size w w' := by
  obtain ⟨g, hgood, hgi⟩ := good_is hl hg.1
  obtain rfl : g = true := hgi.2 hg
  have HH := Lib.hid hgood
  clear hgood hgi
  obtain ⟨hn0, hn1, hn2⟩ := hg.1
  have hlen : l.length ≤ 64 := by omega
  have HC := Lib.hid hC
  have HN := Lib.hid hn2
  clear hn2 hC
  go_enter Try.func20, Try.ntmps20
  go_wp2_with (first
    | (go_at_call 25; refine (Bits.mapOf A c l nn true _ HC.out hc HH.out).mono ?_; rintro e w1 ⟨rfl, hw1⟩)
    | ((with_reducible refine gate_dst (N := 32) rfl ?_); refine Kd.R_make (Kd.int .u64) w.heap.size 39 rfl (N := 32) rfl 22 _ _ rfl (l.length : Int) rfl rfl Try.underlying22 (.int .u64 0) 8 (by kernel_rfl) rfl (by decide) (by omega) 0 (ok := fun _ => True) (okp := fun _ => True) rfl (fun _ hk => hk) trivial (by omega) (by omega) (Bits.balloc hw1 _) (by have := hw1.size; simp; omega) ?_; intro v2 w2 hR2 hB2 hg2 hnew2; clear hg2 hnew2; obtain ⟨g, cap, cur, rfl, hgw, hcur, hcap, hcur2⟩ := made_form (n := l.length) hR2 (by have := HN.out; omega); clear hR2)
    | ((with_reducible refine gate_dst (N := 35) rfl ?_); refine wpList_copy_splice rfl (.tmp 33) (.tmp 34) 22 22 rfl 39 Try.underlying22 (by kernel_rfl) (some ⟨g, 0, none⟩) A l.length cap l.length c rfl rfl g 0 cur 39 hcur (nums .u64 l) (by simp [nums]) (fun hp => ⟨rfl, words_at (Kd.C_below HC.out hB2) (by simpa [nums] using hp)⟩) (by simp [nums]; omega) (fun v hv => by obtain ⟨x, _, rfl⟩ := List.mem_map.1 hv; rfl) w.heap.size w hB2 hgw ?_; intro w3 hh3 hB3))
  have hR3 := spliced hgw hcap hcur2 hh3.out
  have hi0 : 0 ≤ i / 64 := by omega
  have hi1 : i / 64 < (l.length : Int) := by have := HN.out; omega
  have hx := hl _ (rd_mem hi0 hi1)
  obtain ⟨x, hxe⟩ : ∃ x, rd l (i / 64) = x := ⟨_, rfl⟩
  rw [hxe] at hx
  obtain ⟨hx0, hx1⟩ := hx
  obtain ⟨k6, k7⟩ := Kd.R_cell 0 hR3 (i / 64) hi0 hi1
  rw [show rdOf 0 l (i / 64) = x from hxe] at k6
  have HX := Lib.hid hxe
  have HR3 := Lib.hid hR3
  clear hxe hR3 hh3
  have ed : IntKind.i64.wrap (i.tdiv 64) = i / 64 := by rw [Int.tdiv_eq_ediv_of_nonneg h0]; exact IntWalk.i64_in _ (by omega)
  have em : i.tmod 64 = i % 64 := Int.tmod_eq_emod_of_nonneg h0
  have hm0 : 0 ≤ i % 64 := by omega
  go_wp2_with fail
  go_region
  obtain ⟨y, hye⟩ : ∃ y, Go.bits .andNot .u64 x (IntKind.u64.wrap (2 ^ (i % 64).toNat)) = y := ⟨_, rfl⟩
  rw [hye]
  have HY := Lib.hid (show offw x i = y from hye)
  clear hye
  obtain ⟨W4, hW4⟩ : ∃ W4, (w3.setCell ⟨g, (i / 64).toNat, none⟩ (.int .u64 y)).drew = W4 := ⟨_, rfl⟩
  rw [hW4]
  have hp4 := Kd.R_put HR3.out (i / 64) y
  have hR4 : (Kd.int .u64).R 39 W4 w.heap.size (fun _ => True) (.slice (some ⟨g, 0, none⟩) l.length cap) (l.set (i / 64).toNat y) := by
    rw [← hW4]
    exact Kd.R_drew hp4.1
  have hB4 : Below w.heap.size w W4 := by
    rw [← hW4]
    exact below_drew (hB3.setCell (p := ⟨g, (i / 64).toNat, none⟩) hgw _)
  clear hp4
  have HR4 := Lib.hid hR4
  clear hW4
  cases on with
  | false =>
    clear hR4
    go_wp2
    exact bodyPost_ret (v := .tuple #[.slice (some ⟨g, 0, none⟩) l.length cap, .bool true]) (by simp [results, Try.results20, go_sem]) rfl ⟨_, rfl, by unfold putw; rw [if_neg (by simp), HX.out, HY.out]; exact HR4.out, hB4⟩
  | true =>
    have hl4 : l.length = (l.set (i / 64).toNat y).length := by simp
    have hR5 := hR4
    rw [hl4] at hR5
    obtain ⟨k8, k9⟩ := Kd.R_cell 0 hR5 (i / 64) hi0 (by rw [← hl4]; exact hi1)
    have e8 : rdOf 0 (l.set (i / 64).toNat y) (i / 64) = y := by
      unfold rdOf
      rw [List.getD_eq_getElem?_getD, List.getElem?_set_self (by omega)]
      rfl
    rw [e8] at k8
    have HR5 := Lib.hid hR5
    have HL4 := Lib.hid hl4
    clear hR4 hR5 hl4 e8
    go_wp2_with fail
    go_region
    go_wp2_with fail
    have hp6 := (Kd.R_put HR5.out (i / 64) (Go.bits .or .u64 y (IntKind.u64.wrap (2 ^ (i % 64).toNat)))).1
    rw [List.set_set, ← HL4.out] at hp6
    exact bodyPost_ret (v := .tuple #[.slice (some ⟨g, 0, none⟩) l.length cap, .bool true]) (by simp [results, Try.results20, go_sem]) rfl ⟨_, rfl, by unfold putw onw mask; rw [if_pos rfl, HX.out, HY.out]; exact Kd.R_drew hp6, below_drew (hB4.setCell (p := ⟨g, (i / 64).toNat, none⟩) hgw _)⟩
set_option maxHeartbeats 1000000 in
theorem put_bad (A : Option Addr) (c : Nat) (l : List Int) (n i : Int) (on g : Bool) (w : World) (hr : Kd.C (Kd.int .u64) w A l.length l) (hc : l.length ≤ c) (h : impl_bitmap_uint64_good.f l n = some g) (hg : g = false ∨ i < 0 ∨ n ≤ i) :
    Calls Try.prog 20 #[.slice A l.length c, .int .i64 n, .int .i64 i, .bool on] w fun e w' => e = .returned (.tuple #[.slice none 0 0, .bool false]) ∧ Below w.heap.size w w' := by
  have HH := Lib.hid h
  have HR := Lib.hid hr
  clear h hr
  have key : (g = false) ∨ (g = true ∧ i < 0) ∨ (g = true ∧ 0 ≤ i ∧ n ≤ i) := by
    cases g
    · exact .inl rfl
    · rcases hg with hg | hg | hg
      · cases hg
      · exact .inr (.inl ⟨rfl, hg⟩)
      · by_cases h0 : i < 0
        · exact .inr (.inl ⟨rfl, h0⟩)
        · exact .inr (.inr ⟨rfl, by omega, hg⟩)
  clear hg
  rcases key with rfl | ⟨rfl, h0⟩ | ⟨rfl, h0, h1⟩
  all_goals
    go_enter Try.func20, Try.ntmps20
    go_wp2_with fail
    refine (Bits.mapOf A c l n _ _ HR.out hc HH.out).mono ?_; rintro e w1 ⟨rfl, hw1⟩
    go_wp2
    exact bodyPost_ret (v := .tuple #[.slice none 0 0, .bool false]) (by simp [results, Try.results20, go_sem]) rfl ⟨rfl, Bits.balloc hw1 _⟩
end Go.Proofs.Ytleooacadfhelaa.Put
