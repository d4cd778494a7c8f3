/- The reference's RunSpace. -/
import Derived.Test.YtklobepkihdbkaaSpR
import Derived.Test.YtklobepkihdbkaaSsO
namespace Go.Proofs.Ytklobepkihdbkaa.SsN
open Go.RowKit Go.MuLone Go.Proofs.YtklobepkihdbkaaW.PrintWords Go.Proofs.Ytklobepkihdbkaa.PFnExactRunSpace Mem Sp SpI SpA SpP SpQ SpD SpR SsR SsM SsD SsE SsO
set_option linter.unusedVariables false
set_option linter.unusedSimpArgs false
theorem infoP : (Try.prog.info? 121).map (fun i => (i.zero, i.size, i.bytes)) = some (some (.agg #[.bool false, .bool false, .slice none 0 0]), 3, 32) := by kernel_rfl
def noPages (n : Nat) : Array Value := madeCells (Value.agg #[.bool false, .bool false, .slice none 0 0]).cells (n * 3)
theorem make_pages (w : World) (n : Nat) (hn : n ≤ 4096) : (Instr.makeSlice 115 (.int .i64 n) (.int .i64 n)).run Try.prog w = .ok (.slice (some ⟨w.heap.size, 0, none⟩) n n) (w.alloc (.cells (noPages n) 121)) := by
  obtain ⟨i0, hi, hz0, hz1, hz2⟩ := info_parts infoP
  have := run_make (P := Try.prog) w 115 121 i0 (.agg #[.bool false, .bool false, .slice none 0 0]) Try.underlying115 hi hz0 .i64 .i64 n n (by omega) (by omega) (by rw [hz2]; omega) (by omega)
  rw [hz1, Int.toNat_natCast] at this
  exact this
theorem noPages_at (n k : Nat) (hk : k < n) : (noPages n)[k * 3]? = some (.bool false) ∧ (noPages n)[k * 3 + 1]? = some (.bool false) ∧ (noPages n)[k * 3 + 2]? = some (.slice none 0 0) := by
  have e0 : (k * 3) % 3 = 0 := by omega
  have e1 : (k * 3 + 1) % 3 = 1 := by omega
  have e2 : (k * 3 + 2) % 3 = 2 := by omega
  have l0 : k * 3 < n * 3 := by omega
  have l1 : k * 3 + 1 < n * 3 := by omega
  have l2 : k * 3 + 2 < n * 3 := by omega
  unfold noPages madeCells
  refine ⟨?_, ?_, ?_⟩
  · rw [Array.getElem?_map, Array.getElem?_range, if_pos l0]
    show some ((#[Value.bool false, .bool false, .slice none 0 0] : Array Value)[k * 3 % 3]!) = _
    rw [e0]; rfl
  · rw [Array.getElem?_map, Array.getElem?_range, if_pos l1]
    show some ((#[Value.bool false, .bool false, .slice none 0 0] : Array Value)[(k * 3 + 1) % 3]!) = _
    rw [e1]; rfl
  · rw [Array.getElem?_map, Array.getElem?_range, if_pos l2]
    show some ((#[Value.bool false, .bool false, .slice none 0 0] : Array Value)[(k * 3 + 2) % 3]!) = _
    rw [e2]; rfl
theorem noPages_len (n : Nat) : (noPages n).size = n * 3 := size_madeCells _ _
set_option maxRecDepth 100000 in
set_option maxHeartbeats 1000000 in
theorem new_is (w : World) (n : Nat) (bud : Int) (hn : n ≤ 4096) :
    Calls Try.prog 45 #[.int .i64 n, .int .i64 bud] w fun e w' => ∃ sb, e = .returned (.pointer (some ⟨sb, 0, none⟩)) ∧ SSpace w' (fun k => w.heap.size ≤ k ∧ k < w'.heap.size) sb bud (fresh n) ∧ Turn w w' (fun _ => False) := by
  have hm := make_pages w n hn
  go_enter Try.func45, Try.ntmps45
  go_wp2
  go_ret
  refine ⟨_, rfl, ⟨w.heap.size, some ⟨w.heap.size, 0, none⟩, n, fun _ => 0, ?_⟩, ((Turn.refl w _).alloc _).alloc _⟩
  have hl : (fresh n).length = n := List.length_replicate
  have h0 := alloc_new w (.cells (noPages n) 121)
  have h1 := alloc_new (w.alloc (.cells (noPages n) 121)) (.cells #[.slice (some ⟨w.heap.size, 0, none⟩) n n, .int .i64 bud] 117)
  have hz : (w.alloc (.cells (noPages n) 121)).heap.size = w.heap.size + 1 := by simp
  rw [hz] at h1
  refine ⟨by rw [hl]; exact h1, fun _ => ⟨rfl, ⟨Nat.le_refl _, by simp; omega⟩, noPages n, alloc_old h0 _, by rw [hl, noPages_len]; exact Nat.le_refl _, fun k hk => ?_⟩, fun k bs op e => (by rw [pg_fresh] at e; cases e), fun k k' e => (by rw [pg_fresh] at e; cases e), ⟨by omega, by simp⟩, fun k hk => hk.2, by rw [hl]; exact hn, by rw [hl]; exact Nat.le_refl _⟩
  rw [hl] at hk
  rw [pg_fresh]
  exact noPages_at n k hk
end Go.Proofs.Ytklobepkihdbkaa.SsN
