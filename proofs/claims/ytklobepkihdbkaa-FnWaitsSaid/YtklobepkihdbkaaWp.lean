/- Quarantines as lists: what a push leaves; plain facts. -/
import Derived.WalkSmall
namespace Go.Proofs.Ytklobepkihdbkaa.Wp
set_option linter.unusedVariables false
set_option linter.unusedSimpArgs false
/-- The mixer's place. -/
def mixAt (mix : List Int) (draw : Int) : Nat := (draw % (mix.length : Int)).toNat
def mixed (mix : List Int) (slot draw : Int) : List Int := mix.set (mixAt mix draw) slot
def mixOut (mix : List Int) (slot draw : Int) : Int := if mix = [] then slot else mix.getD (mixAt mix draw) 0
/-- Behind a push: mix, fifo, what leaves. -/
def fifoTo (fifo : List Int) (limit on : Int) : List Int := if on < 0 then fifo else if (fifo.length : Int) + 1 ≤ limit then fifo ++ [on] else (fifo ++ [on]).tail
def fifoOut (fifo : List Int) (limit on : Int) : Int := if on < 0 then -1 else if (fifo.length : Int) + 1 ≤ limit then -1 else (fifo ++ [on]).headD 0
structure GoodW (mix fifo : List Int) (limit : Int) : Prop where
  mixLen : mix.length ≤ 16
  limLo : 1 ≤ limit
  limHi : limit ≤ 32
  fifoLen : (fifo.length : Int) ≤ limit
  mixAll : ∀ x ∈ mix, -1 ≤ x
  fifoAll : ∀ x ∈ fifo, 0 ≤ x
theorem mixAt_lt {mix : List Int} (h : mix ≠ []) (draw : Int) : mixAt mix draw < mix.length := by
  have hl : 0 < mix.length := List.length_pos_iff.2 h
  unfold mixAt
  have := Int.emod_nonneg draw (b := (mix.length : Int)) (by omega)
  have := Int.emod_lt_of_pos draw (b := (mix.length : Int)) (by omega)
  omega
theorem mixed_nil (slot draw : Int) : mixed [] slot draw = [] := rfl
theorem mixOut_mem {mix : List Int} (h : mix ≠ []) (slot draw : Int) : mixOut mix slot draw ∈ mix := by
  unfold mixOut
  rw [if_neg h, List.getD_eq_getElem?_getD, List.getElem?_eq_getElem (mixAt_lt h draw)]
  exact List.getElem_mem _
theorem out_lo {mix fifo : List Int} {limit : Int} (hg : GoodW mix fifo limit) {slot : Int} (hs : 0 ≤ slot) (draw : Int) : -1 ≤ mixOut mix slot draw := by
  by_cases h : mix = []
  · unfold mixOut
    rw [if_pos h]
    omega
  · exact hg.mixAll _ (mixOut_mem h slot draw)
theorem good_step {mix fifo : List Int} {limit : Int} (hg : GoodW mix fifo limit) {slot : Int} (hs : 0 ≤ slot) (draw : Int) : GoodW (mixed mix slot draw) (fifoTo fifo limit (mixOut mix slot draw)) limit := by
  refine ⟨by unfold mixed; rw [List.length_set]; exact hg.mixLen, hg.limLo, hg.limHi, ?_, ?_, ?_⟩
  · have := hg.fifoLen
    unfold fifoTo
    split
    · exact this
    · split
      · simp; omega
      · simp; omega
  · intro x hx
    unfold mixed at hx
    rcases List.mem_or_eq_of_mem_set hx with h | h
    · exact hg.mixAll x h
    · omega
  · intro x hx
    unfold fifoTo at hx
    split at hx
    · exact hg.fifoAll x hx
    · rename_i ho
      have key : x ∈ fifo ++ [mixOut mix slot draw] → 0 ≤ x := fun h => by
        rcases List.mem_append.1 h with h | h
        · exact hg.fifoAll x h
        · rw [List.mem_singleton.1 h]
          omega
      split at hx
      · exact key hx
      · exact key (List.mem_of_mem_tail hx)
/-! ### Pushes one behind the other -/
/-- The state behind the first j pushes of slots, and what has left. -/
def st (m : Nat) (limit : Int) (slots draws : List Int) : Nat → List Int × List Int
  | 0 => (List.replicate m (-1), [])
  | j + 1 => (mixed (st m limit slots draws j).1 (slots.getD j 0) (draws.getD j 0), fifoTo (st m limit slots draws j).2 limit (mixOut (st m limit slots draws j).1 (slots.getD j 0) (draws.getD j 0)))
def lefts (m : Nat) (limit : Int) (slots draws : List Int) (j : Nat) : List Int := (List.range j).map fun i => fifoOut (st m limit slots draws i).2 limit (mixOut (st m limit slots draws i).1 (slots.getD i 0) (draws.getD i 0))
theorem lefts_succ (m : Nat) (limit : Int) (slots draws : List Int) (j : Nat) : lefts m limit slots draws (j + 1) = lefts m limit slots draws j ++ [fifoOut (st m limit slots draws j).2 limit (mixOut (st m limit slots draws j).1 (slots.getD j 0) (draws.getD j 0))] := by
  unfold lefts
  rw [List.range_succ, List.map_append]
  rfl
theorem lefts_len (m : Nat) (limit : Int) (slots draws : List Int) (j : Nat) : (lefts m limit slots draws j).length = j := by simp [lefts]
theorem good_new {m : Nat} {limit : Int} (hm : m ≤ 16) (h1 : 1 ≤ limit) (h2 : limit ≤ 32) : GoodW (List.replicate m (-1)) [] limit :=
  ⟨by simpa using hm, h1, h2, by simp; omega, fun x hx => by rw [(List.mem_replicate.1 hx).2]; omega, fun x hx => by simp at hx⟩
theorem good_st {m : Nat} {limit : Int} (hm : m ≤ 16) (h1 : 1 ≤ limit) (h2 : limit ≤ 32) {slots : List Int} (hs : ∀ x ∈ slots, 0 ≤ x) (draws : List Int) : ∀ j, GoodW (st m limit slots draws j).1 (st m limit slots draws j).2 limit
  | 0 => good_new hm h1 h2
  | j + 1 => good_step (good_st hm h1 h2 hs draws j) (by
      rw [List.getD_eq_getElem?_getD]
      cases h : slots[j]? with
      | none => exact Int.le_refl _
      | some y => exact hs y (List.mem_of_getElem? h)) _
/-! ### What waits, what left -/
def pos (l : List Int) : Nat := (l.filter fun x => decide (0 ≤ x)).length
theorem pos_append (a b : List Int) : pos (a ++ b) = pos a + pos b := by simp [pos]
theorem pos_one (x : Int) : pos [x] = if 0 ≤ x then 1 else 0 := by
  unfold pos
  by_cases h : 0 ≤ x <;> simp [h]
theorem pos_all {l : List Int} (h : ∀ x ∈ l, 0 ≤ x) : pos l = l.length := by
  unfold pos
  rw [List.filter_eq_self.2 (fun x hx => by simpa using h x hx)]
theorem pos_set : ∀ {l : List Int} {i : Nat} (hi : i < l.length) (v : Int) (hv : 0 ≤ v), pos (l.set i v) + (if 0 ≤ l.getD i 0 then 1 else 0) = pos l + 1
  | x :: l, 0, _, v, hv => by
    have e : pos (v :: l) = pos [v] + pos l := pos_append [v] l
    have e2 : pos (x :: l) = pos [x] + pos l := pos_append [x] l
    show pos (v :: l) + (if 0 ≤ x then 1 else 0) = pos (x :: l) + 1
    rw [e, e2, pos_one, pos_one, if_pos hv]
    omega
  | x :: l, i + 1, hi, v, hv => by
    have ih := pos_set (l := l) (i := i) (by simpa using hi) v hv
    have e : pos (x :: l.set i v) = pos [x] + pos (l.set i v) := pos_append [x] _
    have e2 : pos (x :: l) = pos [x] + pos l := pos_append [x] l
    show pos (x :: l.set i v) + (if 0 ≤ l.getD i 0 then 1 else 0) = pos (x :: l) + 1
    rw [e, e2]
    omega
theorem held_step {mix fifo : List Int} {limit : Int} (hg : GoodW mix fifo limit) {slot : Int} (hs : 0 ≤ slot) (draw : Int) :
    pos (mixed mix slot draw) + (fifoTo fifo limit (mixOut mix slot draw)).length + pos [fifoOut fifo limit (mixOut mix slot draw)] = pos mix + fifo.length + 1 := by
  have hfl := hg.fifoLen
  have hmix : pos (mixed mix slot draw) + (if 0 ≤ mixOut mix slot draw then 1 else 0) = pos mix + 1 := by
    by_cases h : mix = []
    · subst h
      unfold mixOut
      rw [if_pos rfl, if_pos hs]
      rfl
    · unfold mixed mixOut
      rw [if_neg h]
      exact pos_set (mixAt_lt h draw) slot hs
  obtain ⟨on, hon⟩ : ∃ on, mixOut mix slot draw = on := ⟨_, rfl⟩
  rw [hon] at hmix ⊢
  unfold fifoTo fifoOut
  by_cases h0 : on < 0
  · rw [if_neg (by omega)] at hmix
    rw [if_pos h0, if_pos h0, pos_one, if_neg (by omega)]
    omega
  · rw [if_pos (by omega)] at hmix
    rw [if_neg h0, if_neg h0]
    by_cases h1 : (fifo.length : Int) + 1 ≤ limit
    · rw [if_pos h1, if_pos h1, pos_one, if_neg (by omega)]
      simp
      omega
    · have hhd : 0 ≤ (fifo ++ [on]).headD 0 := by
        cases hf : fifo with
        | nil => simp; omega
        | cons y ys => exact hg.fifoAll y (by rw [hf]; exact List.mem_cons_self)
      rw [if_neg h1, if_neg h1, pos_one, if_pos hhd]
      simp
      omega
/-- Where slots are 0, 1, ..: what waits at place p of a fifo has waited for as many pushes as stand behind it. -/
def Aged (mix fifo : List Int) (j : Nat) : Prop := (∀ x ∈ mix, x < j) ∧ ∀ p : Nat, p < fifo.length → fifo.getD p 0 + ((fifo.length : Int) - p) ≤ j
theorem aged_step {mix fifo : List Int} {limit : Int} (hg : GoodW mix fifo limit) {j : Nat} (ha : Aged mix fifo j) (draw : Int) :
    Aged (mixed mix j draw) (fifoTo fifo limit (mixOut mix j draw)) (j + 1) ∧ (0 ≤ fifoOut fifo limit (mixOut mix j draw) → fifoOut fifo limit (mixOut mix j draw) + limit ≤ j) := by
  have hfl := hg.fifoLen
  have hl1 := hg.limLo
  have hon : mixOut mix j draw ≤ j := by
    by_cases h : mix = []
    · unfold mixOut
      rw [if_pos h]
      omega
    · have := ha.1 _ (mixOut_mem h (j : Int) draw)
      omega
  obtain ⟨on, hone⟩ : ∃ on, mixOut mix j draw = on := ⟨_, rfl⟩
  rw [hone] at hon ⊢
  have hmix : ∀ x ∈ mixed mix j draw, x < ((j + 1 : Nat) : Int) := fun x hx => by
    unfold mixed at hx
    rcases List.mem_or_eq_of_mem_set hx with h | h
    · have := ha.1 x h
      omega
    · omega
  have hnew : ∀ p : Nat, p < (fifo ++ [on]).length → (fifo ++ [on]).getD p 0 + (((fifo ++ [on]).length : Int) - p) ≤ ((j + 1 : Nat) : Int) := fun p hp => by
    simp only [List.length_append, List.length_singleton] at hp ⊢
    by_cases h : p < fifo.length
    · have := ha.2 p h
      rw [List.getD_eq_getElem?_getD, List.getElem?_append_left h, ← List.getD_eq_getElem?_getD]
      omega
    · obtain rfl : p = fifo.length := by omega
      rw [List.getD_eq_getElem?_getD, List.getElem?_append_right (Nat.le_refl _)]
      simp
      omega
  unfold fifoTo fifoOut
  by_cases h0 : on < 0
  · rw [if_pos h0, if_pos h0]
    exact ⟨⟨hmix, fun p hp => by have := ha.2 p hp; omega⟩, fun h => by omega⟩
  · rw [if_neg h0, if_neg h0]
    by_cases h1 : (fifo.length : Int) + 1 ≤ limit
    · rw [if_pos h1, if_pos h1]
      exact ⟨⟨hmix, hnew⟩, fun h => by omega⟩
    · rw [if_neg h1, if_neg h1]
      obtain ⟨all, hall⟩ : ∃ all, fifo ++ [on] = all := ⟨_, rfl⟩
      have hlen : all.length = fifo.length + 1 := by rw [← hall]; simp
      rw [hall] at hnew ⊢
      cases all with
      | nil => simp at hlen
      | cons y ys =>
        simp only [List.length_cons] at hlen hnew
        refine ⟨⟨hmix, fun p hp => ?_⟩, fun _ => ?_⟩
        · have := hnew (p + 1) (by simpa using hp)
          rw [List.getD_cons_succ] at this
          simp only [List.tail_cons] at hp ⊢
          omega
        · have := hnew 0 (by omega)
          simp only [List.getD_cons_zero, List.headD_cons] at this ⊢
          omega
end Go.Proofs.Ytklobepkihdbkaa.Wp
