/- The iterator over the free bits: which come. -/
import Derived.RangeFuncBox
import Derived.RangeFuncLeaves
import Derived.RangeFuncNested
import Derived.RangeFuncBound
import Derived.RangeFuncCalls
import Derived.Shelf.Abstract
import Derived.Shelf.RegionOpen
import Derived.WalkKit
import Derived.OwnWalkIn
import Derived.TacticsInMore
import Derived.LoopNIn
import Derived.LoopIn
import Derived.Lib.Hide
import Derived.WalkMore
import Derived.Test.YtleooacadfhelaaBitFns
namespace Go.Proofs.Ytleooacadfhelaa.Iter
open Go.RowKit Go.Shelf Go.Proofs.YtleooacadfhelaaW.PrintWords BitF
set_option linter.unusedVariables false
set_option linter.unusedSimpArgs false
attribute [local go_sem] Oper.semAt_some
section
variable {P : Program} {b : Frame} {a : Act} {k : List Item} {cs : List Frame} {w : World} {Q : Exit → Act → World → Prop} {F : Fence} {n : Nat}
theorem stepR_scope {c : Code} : step P (lone (b.atR a (.code (.scope c) :: k)) cs w) = .next (lone (b.atR a (.code c :: .inScope c :: k)) cs w) :=
  step_lone_go (by simp [stepG, stepG.exec, Frame.atR])
theorem stepR_inScope {c : Code} : step P (lone (b.atR a (.inScope c :: k)) cs w) = .next (lone (b.atR a k) cs w) :=
  step_lone_go (by simp [stepG, stepG.exec, Frame.atR])
/-- A scope through which the run goes without a goto, inside a fence. -/
theorem wpIn_scope_straight {c : Code} (h : c.wpIn F n P (Exit.noGoto Q) a w) : (Code.scope c).wpIn F n P Q a w := by
  intro b k cs hro hb hr
  have h0 : (lone (b.atR a (.code (.scope c) :: k)) cs w).fenced P F := fenced_calm hb hr rfl
  obtain ⟨e, a₁, w₁, hq, harr⟩ := h b (.inScope c :: k) cs hro hb hr
  cases e with
  | normal => exact ⟨.normal, a₁, w₁, hq, .head h0 stepR_scope (StepsIn.trans harr (.one (fenced_calm hb hr rfl) stepR_inScope))⟩
  | exit id =>
    have hx : exitTo id (.inScope c :: k) = exitTo id k := by simp [exitTo]
    exact ⟨.exit id, a₁, w₁, hq, fun k' hk => .head h0 stepR_scope (harr.1 k' (by rw [hx]; exact hk)),
      fun hr' hk => let ⟨k₁, h1, h2⟩ := harr.2 hr' (by rw [hx]; exact hk); ⟨k₁, h1, .head h0 stepR_scope h2⟩⟩
  | goto l => exact hq.elim
  | ret => exact ⟨_, a₁, w₁, hq, .of_steps (.one h0 stepR_scope) harr⟩
  | panic ch => exact ⟨_, a₁, w₁, hq, .of_steps (.one h0 stepR_scope) harr⟩
  | outgrown => exact ⟨_, a₁, w₁, hq, .of_steps (.one h0 stepR_scope) harr⟩
theorem noGoto_normal (h : Q .normal a w) : Exit.noGoto Q .normal a w := h
end
theorem add_block (ad : Addr) (k : Nat) : (ad.add k).block = ad.block := by unfold Addr.add; split <;> rfl
/-- What a round keeps: what lies below n₀, and the box of the bitmap. -/
def Kb (n₀ Bb : Nat) (A B : World) : Prop := Below n₀ A B ∧ ∀ o v, A.cell? ⟨Bb, o, none⟩ = some v → B.cell? ⟨Bb, o, none⟩ = some v
theorem Kb.refl (n₀ Bb : Nat) (A : World) : Kb n₀ Bb A A := ⟨Below.refl _ _, fun _ _ h => h⟩
theorem Kb.trans {n₀ Bb : Nat} {A B C : World} (h : Kb n₀ Bb A B) (h' : Kb n₀ Bb B C) : Kb n₀ Bb A C := ⟨h.1.trans h'.1, fun o v e => h'.2 o v (h.2 o v e)⟩
theorem Kb.put {n₀ Bb : Nat} {w : World} (hn : n₀ ≤ w.heap.size) (W : World) (l : Nat) (o o' : Obj) (hl : w.heap.size ≤ l) (h : W.heap[l]? = some o) (hc : o.isCells = false) (hw : o.isWalk = false) : Kb n₀ Bb W (W.putObj l o') :=
  ⟨belowK_b (w := w) hn W l o o' hl h hc hw, fun j v e => cell_kept e (grownBy_putObj' W l o') (fun r er => by cases er; exact ⟨o, h, hc⟩)⟩
def isFree (l : List Int) (n : Int) (i : Nat) : Bool := decide ((i : Int) < n) && !at_ l i
/-- The free bits among the first m. -/
def frs (l : List Int) (n : Int) (m : Nat) : List Int := ((List.range m).filter (isFree l n)).map (fun i : Nat => (i : Int))
theorem frs_yes {l : List Int} {n : Int} {m : Nat} (h : isFree l n m = true) : frs l n (m + 1) = frs l n m ++ [(m : Int)] := by
  unfold frs
  rw [List.range_succ, List.filter_append, List.map_append]
  simp [h]
theorem frs_no {l : List Int} {n : Int} {m : Nat} (h : isFree l n m = false) : frs l n (m + 1) = frs l n m := by
  unfold frs
  rw [List.range_succ, List.filter_append, List.map_append]
  simp [h]
theorem frs_len (l : List Int) (n : Int) (m : Nat) : (frs l n m).length ≤ m := by
  unfold frs
  rw [List.length_map]
  exact Nat.le_trans (List.length_filter_le _ _) (by simp)
theorem and_free {x : Int} (h0 : 0 ≤ x) (h1 : x ≤ 18446744073709551615) {j : Nat} : (Go.bits .and .u64 (x / 2 ^ j) 1 == 0) = !bit x j := by
  have hd0 : 0 ≤ x / 2 ^ j := Int.ediv_nonneg h0 (Int.pow_nonneg (by omega))
  have hd1 : x / 2 ^ j ≤ x := Int.ediv_le_self _ h0
  rw [and_one_u64 _ hd0 (by omega)]
  unfold bit
  generalize x / 2 ^ j = y
  rw [Bool.eq_iff_iff]
  simp
  omega
set_option maxRecDepth 100000 in
set_option maxHeartbeats 4000000 in
theorem free1_in (F : Fence) (n : Nat) (hF : F.fn 32) (hro : F.round = none) (hn : 1 ≤ n) (lp Bb n₀ : Nat) (A : Option Addr) (c : Nat) (l : List Int) (nn : Int)
    (hl : Words l) (hlen : l.length ≤ 64) (hnn : 0 ≤ nn) (hnn' : nn ≤ 4096) (J Jx : List Int → World → Prop)
    (hY : ∀ pre x W, J pre W → pre.length < 64 * l.length → YieldAt F (n - 1) Try.prog lp #[.int .i64 x] W fun e W' =>
      (e = .returned (.bool true) ∧ J (pre ++ [x]) W' ∧ Kb n₀ Bb W W') ∨ (e = .returned (.bool false) ∧ Jx (pre ++ [x]) W'))
    (W : World) (hB0 : W.cell? ⟨Bb, 0, none⟩ = some (.slice A l.length c)) (hB1 : W.cell? ⟨Bb, 1, none⟩ = some (.int .i64 nn))
    (hc : ∀ j, j < l.length → ∃ ad, A = some ad ∧ ad.block < n₀ ∧ W.cell? (ad.add j) = some (.int .u64 (rd l j))) (h0 : J [] W) :
    CallsIn F n Try.prog 32 #[.func (.yield lp) #[] #[], .pointer (some ⟨Bb, 0, none⟩)] W fun e W' => (∃ v, e = .returned v) ∧
      ((∃ ys, ys = frs l nn (64 * l.length) ∧ J ys W') ∨ (∃ pre, (∃ k, k ≤ 64 * l.length ∧ pre = frs l nn k) ∧ Jx pre W')) := by
  refine callsIn_of_wp Try.func32 rfl hF ?_ hro
  simp only [Try.ntmps32, List.size_toArray, List.length_cons, List.length_nil, Nat.reduceAdd, Nat.reduceSub, Array.replicate_succ, Array.replicate_zero, List.push_toArray, List.append_toArray, List.nil_append, List.cons_append]
  gi_wp2
  refine wpIn_scope_straight ?_
  gi_wp2
  refine wpIn_label ?_
  gi_wp2
  gi_loopw [10] (fun i wr => ∃ k : Nat, k ≤ l.length ∧ i = .int .i64 k ∧ J (frs l nn (64 * k)) wr ∧ Kb n₀ Bb W wr)
    (fun i _ => l.length - (intOf i).toNat)
  case atStart => exact ⟨0, Nat.zero_le _, rfl, h0, Kb.refl _ _ _⟩
  case round =>
    obtain ⟨k, hk, rfl, hJs, hnx⟩ := hrel
    by_cases hlt : k < l.length
    · obtain ⟨ad, rfl, had, hcell⟩ := hc k hlt
      have hcx : wr.cell? (ad.add k) = some (.int .u64 (rd l k)) := (hnx.1.cell (p := ad.add k) (by rw [add_block]; exact had)).trans hcell
      have hk64 : k < 64 := by omega
      gi_wp2
      gi_loopw [15] (fun i wr2 => ∃ m : Nat, m ≤ 64 ∧ i = .int .i64 m ∧ J (frs l nn (64 * k + m)) wr2 ∧ Kb n₀ Bb W wr2)
        (fun i _ => 64 - (intOf i).toNat)
      case atStart => exact ⟨0, Nat.zero_le _, rfl, hJs, hnx⟩
      case round =>
        obtain ⟨m, hm, rfl, hJm, hnm⟩ := hrel
        have hn1 : wr.cell? ⟨Bb, 1, none⟩ = some (.int .i64 nn) := hnm.2 1 _ hB1
        by_cases hmt : m < 64
        · have hx := hl _ (rd_mem (l := l) (i := (k : Int)) (by omega) (by omega))
          have hbit := and_free hx.1 hx.2 (j := m)
          have hatk : at_ l (64 * k + m) = bit (rd l k) m := by
            unfold at_
            rw [show (64 * k + m) / 64 = k by omega, show (64 * k + m) % 64 = m by omega]
          have hfr : isFree l nn (64 * k + m) = (decide (64 * (k : Int) + m < nn) && !bit (rd l k) m) := by
            unfold isFree
            rw [hatk, show (((64 * k + m : Nat)) : Int) = 64 * (k : Int) + m by omega]
          have HF := Lib.hid hfr
          clear hfr hatk hx
          by_cases hat : 64 * (k : Int) + m < nn
          · cases hb2 : bit (rd l k) m with
            | true =>
              have hno : frs l nn (64 * k + (m + 1)) = frs l nn (64 * k + m) := frs_no (m := 64 * k + m) (by rw [HF.out, hb2]; simp)
              have HN := Lib.hid hno
              rw [hb2] at hbit
              clear hno hb2
              have hbit' : (Go.bits .and .u64 (rd l k / 2 ^ m) 1 == 0) = false := hbit
              clear hbit
              gi_wp2
              go_roundw
              case rel => exact ⟨m + 1, by omega, by simp, by rw [HN.out]; exact hJm, hnm⟩
              case measure => simp [intOf]; omega
            | false =>
              have hyes : frs l nn (64 * k + (m + 1)) = frs l nn (64 * k + m) ++ [64 * (k : Int) + m] := by
                rw [← Nat.add_assoc, frs_yes (by rw [HF.out, hb2]; simp [hat])]
                rw [show (((64 * k + m : Nat)) : Int) = 64 * (k : Int) + m by omega]
              have HN := Lib.hid hyes
              rw [hb2] at hbit
              clear hyes hb2
              have hbit' : (Go.bits .and .u64 (rd l k / 2 ^ m) 1 == 0) = true := hbit
              clear hbit
              obtain ⟨fn, tmps, assign, body, hy, hR⟩ := hY _ (64 * (k : Int) + m) wr hJm (by have := frs_len l nn (64 * k + m); omega)
              gi_wp2
              refine hR.mono ?_
              rintro e W3 (⟨rfl, hJ3, hk3⟩ | ⟨rfl, hJx3⟩)
              · gi_wp2
                go_roundw
                case rel => exact ⟨m + 1, by omega, by simp, by rw [HN.out]; exact hJ3, hnm.trans hk3⟩
                case measure => simp [intOf]; omega
              · gi_wp2
                refine noGoto_normal ?_
                go_end0
                exact ⟨⟨_, rfl⟩, .inr ⟨_, ⟨64 * k + (m + 1), by omega, HN.out.symm⟩, hJx3⟩⟩
          · have hno : frs l nn (64 * k + (m + 1)) = frs l nn (64 * k + m) := frs_no (m := 64 * k + m) (by rw [HF.out]; simp [hat])
            have HN := Lib.hid hno
            clear hno hbit
            gi_wp2
            go_roundw
            case rel => exact ⟨m + 1, by omega, by simp, by rw [HN.out]; exact hJm, hnm⟩
            case measure => simp [intOf]; omega
        · obtain rfl : m = 64 := by omega
          gi_wp2
          go_roundw
          case rel => exact ⟨k + 1, by omega, by simp, by rw [show 64 * (k + 1) = 64 * k + 64 by omega]; exact hJm, hnm⟩
          case measure => simp [intOf]; omega
    · obtain rfl : k = l.length := by omega
      gi_wp2
      refine noGoto_normal ?_
      go_end0
      exact ⟨⟨_, rfl⟩, .inl ⟨_, rfl, hJs⟩⟩
set_option maxHeartbeats 1000000 in
/-- free(): the bitmap is boxed; the function value captures the box. -/
theorem free_in (F : Fence) (n : Nat) (hf : F.fn 27) (hro : F.round = none) (A : Option Addr) (len c : Nat) (nn : Int) (w : World) :
    CallsIn F n Try.prog 27 #[.agg #[.slice A len c, .int .i64 nn]] w fun e w' => e = .returned (.func (.func 32) #[] #[.pointer (some ⟨w.heap.size, 0, none⟩)]) ∧ w' = w.alloc (.cells #[.slice A len c, .int .i64 nn] 41) := by
  refine callsIn_of_wp Try.func27 rfl hf ?_ hro
  simp only [Try.ntmps27, List.size_toArray, List.length_cons, List.length_nil, Nat.reduceAdd, Nat.reduceSub, Array.replicate_succ, Array.replicate_zero, List.push_toArray, List.append_toArray, List.nil_append, List.cons_append]
  gi_wp2
  go_ret
  exact ⟨rfl, rfl⟩
theorem free_stops (F : Fence) (n : Nat) (hF : F.fn 32) (hro : F.round = none) (hn : 1 ≤ n) (Bb n₀ : Nat) (A : Option Addr) (c : Nat) (l : List Int) (nn : Int)
    (hl : Words l) (hlen : l.length ≤ 64) (hnn : 0 ≤ nn) (hnn' : nn ≤ 4096) (w : World) (hBb : Bb < w.heap.size) (hn₀ : n₀ ≤ w.heap.size)
    (hB0 : w.cell? ⟨Bb, 0, none⟩ = some (.slice A l.length c)) (hB1 : w.cell? ⟨Bb, 1, none⟩ = some (.int .i64 nn))
    (hc : ∀ j, j < l.length → ∃ ad, A = some ad ∧ ad.block < n₀ ∧ w.cell? (ad.add j) = some (.int .u64 (rd l j))) :
    SeqStopsK F n Try.prog 32 #[.pointer (some ⟨Bb, 0, none⟩)] (fun x : Int => #[Value.int .i64 x]) (Kb n₀ Bb) (fun ys => ys = frs l nn (64 * l.length)) (fun pre => ∃ k, k ≤ 64 * l.length ∧ pre = frs l nn k) (64 * l.length) w := fun lp J Jx W hW _ _ hY h0 => by
  refine free1_in F n hF hro hn lp Bb n₀ A c l nn hl hlen hnn hnn' J Jx hY W ((hW.cell (p := ⟨Bb, 0, none⟩) hBb).trans hB0) ((hW.cell (p := ⟨Bb, 1, none⟩) hBb).trans hB1) (fun j hj => ?_) h0
  obtain ⟨ad, e, hb, hc'⟩ := hc j hj
  exact ⟨ad, e, hb, (hW.cell (p := ad.add j) (by rw [add_block]; omega)).trans hc'⟩
theorem blk_lt {w : World} {a : Addr} {v : Value} (h : w.cell? a = some v) : a.block < w.heap.size := by
  rcases Nat.lt_or_ge a.block w.heap.size with h' | h'
  · exact h'
  · unfold World.cell? at h
    rw [Array.getElem?_eq_none h'] at h
    simp at h
/-- The words of a bitmap that is read. -/
theorem words_of {w : World} {A : Option Addr} {l : List Int} (h : Kd.C (Kd.int .u64) w A l.length l) : ∀ j, j < l.length → ∃ ad, A = some ad ∧ ad.block < w.heap.size ∧ w.cell? (ad.add j) = some (.int .u64 (rd l j)) := fun j hj => by
  obtain ⟨ad, e, hc⟩ := Kd.at_int h (j : Int) (by omega) (by omega)
  rw [Int.toNat_natCast] at hc
  have hb := blk_lt hc
  rw [add_block] at hb
  exact ⟨ad, e, hb, hc⟩
end Go.Proofs.Ytleooacadfhelaa.Iter
