/- Maps of places: plain. -/
import Derived.Test.YtfapglhdakhbeaaDoorBase
import Derived.Test.YtfapglhdakhbeaaDoorProg
namespace Go.Proofs.YtfapglhdakhbeaaDoor
open Go.RowKit
set_option linter.unusedVariables false
set_option linter.unusedSimpArgs false

structure Rng where
  at0 : Int
  old : Int
  new : Int
abbrev Rng.cs (x : Rng) : List Value := [.int .i64 x.at0, .int .i64 x.old, .int .i64 x.new]
def rngR : Rp Rng where
  sz := 3
  rep := fun _ _ x cs => cs = x.cs
  len := fun h => by rw [h]; rfl
  one := fun h u hu => by
    rw [h] at hu
    simp [Rng.cs] at hu
    rcases hu with rfl | rfl | rfl <;> rfl
  move := fun _ h => h
theorem rng_at {w : World} {F : Nat → Prop} {A : Option Addr} {xs : List Rng} (h : rngR.row w F A xs) {j : Nat} {x : Rng} (hx : xs[j]? = some x) :
    ∃ b o, A = some ⟨b, o, none⟩ ∧ F b ∧ b < w.heap.size ∧ w.cell? ⟨b, o + j * 3, none⟩ = some (.int .i64 x.at0) ∧ w.cell? ⟨b, o + j * 3 + 1, none⟩ = some (.int .i64 x.old) ∧ w.cell? ⟨b, o + j * 3 + 2, none⟩ = some (.int .i64 x.new) := by
  obtain ⟨b, o, cs, hA, hF, hb, hr, hc⟩ := Rp.row_at h hx
  have hr' : cs = x.cs := hr
  subst hr'
  exact ⟨b, o, hA, hF, hb, hc 0 _ rfl, hc 1 _ rfl, hc 2 _ rfl⟩
/-- A range that may stand behind a place. -/
def Rng.ok (last : Int) (r : Rng) : Prop := last ≤ r.at0 ∧ r.at0 ≤ 65536 ∧ r.old ≤ 65536 ∧ r.new ≤ 65536 ∧ 0 ≤ r.old ∧ 0 ≤ r.new
instance (last : Int) (r : Rng) : Decidable (r.ok last) := by unfold Rng.ok; infer_instance
def rightM : Int → List Rng → Bool
  | _, [] => true
  | last, r :: t => if r.ok last then rightM (r.at0 + r.old) t else false
def rightB' (m : List Rng) : Bool := rightM 0 m && decide (m.length ≤ 4)
/-- What the iterator tells. -/
def eachL : Nat → Int → List Rng → List (Int × Int)
  | _, _, [] => []
  | i, d, r :: t => ((i : Int), r.at0 + d) :: eachL (i + 1) (d + (r.new - r.old)) t
def inAt (r : Rng) (begin p side : Int) : Int :=
  begin + (if (if r.old = 0 then decide (side < 0) else if p = r.at0 then true else if p = r.at0 + r.old then false else decide (side < 0)) = true then 0 else r.new)
def mapGo (p side : Int) : Int → List Rng → Int
  | d, [] => p + d
  | d, r :: t => if p < r.at0 then p + d else if p ≤ r.at0 + r.old then inAt r (r.at0 + d) p side else mapGo p side (d + (r.new - r.old)) t
/-- A place through a map: where, and the error. -/
def mapV (m : List Rng) (p side : Int) : Int × Int := if rightB' m = false then (0, 4) else if p < 0 ∨ 65536 < p then (0, 1) else (mapGo p side 0 m, 0)
theorem inAt_ge {r : Rng} {last begin p side : Int} (h : r.ok last) : begin ≤ inAt r begin p side := by
  unfold inAt
  have := h.2.2.2.2.2
  split <;> omega
theorem inAt_le {r : Rng} {last begin p side : Int} (h : r.ok last) : inAt r begin p side ≤ begin + r.new := by
  unfold inAt
  have := h.2.2.2.2.2
  split <;> omega
theorem mapGo_ge (p side : Int) : ∀ (m : List Rng) (last d : Int), rightM last m = true → last ≤ p → last + d ≤ mapGo p side d m := by
  intro m
  induction m with
  | nil => intro last d _ hp; rw [mapGo]; omega
  | cons r t ih =>
    intro last d h hp
    rw [rightM] at h
    split at h
    · rename_i hr
      rw [mapGo]
      split
      · omega
      · split
        · have h1 := inAt_ge (begin := r.at0 + d) (p := p) (side := side) hr
          have := hr.1
          omega
        · have h1 := ih (r.at0 + r.old) (d + (r.new - r.old)) h (by omega)
          have := hr.1
          have := hr.2.2.2.2.2
          omega
    · cases h
/-- Who is ahead stays ahead. -/
theorem mapGo_mono {a b : Int} (hab : a ≤ b) : ∀ (m : List Rng) (last d : Int), rightM last m = true → mapGo a (-1) d m ≤ mapGo b 1 d m := by
  intro m
  induction m with
  | nil => intro last d _; rw [mapGo, mapGo]; omega
  | cons r t ih =>
    intro last d h
    rw [rightM] at h
    split at h
    · rename_i hr
      have hnew := hr.2.2.2.2.2
      have hold := hr.2.2.2.2.1
      rw [mapGo, mapGo]
      by_cases a1 : a < r.at0
      · rw [if_pos a1]
        by_cases b1 : b < r.at0
        · rw [if_pos b1]; omega
        · rw [if_neg b1]
          split
          · have := inAt_ge (begin := r.at0 + d) (p := b) (side := 1) hr
            omega
          · have := mapGo_ge b 1 t (r.at0 + r.old) (d + (r.new - r.old)) h (by omega)
            omega
      · rw [if_neg a1, if_neg (show ¬ b < r.at0 by omega)]
        by_cases a2 : a ≤ r.at0 + r.old
        · rw [if_pos a2]
          split
          · unfold inAt
            by_cases ho : r.old = 0
            · simp [ho]; omega
            · by_cases ha : a = r.at0
              · simp [ho, ha]
                split <;> omega
              · by_cases ha2 : a = r.at0 + r.old
                · have hb : b = r.at0 + r.old := by omega
                  simp [ho, ha2, hb]
                · simp [ho, ha, ha2]
                  split <;> omega
          · have h1 := inAt_le (begin := r.at0 + d) (p := a) (side := -1) hr
            have := mapGo_ge b 1 t (r.at0 + r.old) (d + (r.new - r.old)) h (by omega)
            omega
        · rw [if_neg a2, if_neg (show ¬ b ≤ r.at0 + r.old by omega)]
          exact ih _ _ h
    · cases h
def sendV (m : List Rng) (a b : Int) : Int × Int × Int :=
  if (mapV m a (if b < a then 1 else -1)).2 ≠ 0 then (0, 0, (mapV m a (if b < a then 1 else -1)).2)
  else if (mapV m b (if b < a then -1 else 1)).2 ≠ 0 then (0, 0, (mapV m b (if b < a then -1 else 1)).2)
  else ((mapV m a (if b < a then 1 else -1)).1, (mapV m b (if b < a then -1 else 1)).1, 0)
theorem mapV_err (m : List Rng) (p s s' : Int) : (mapV m p s).2 = (mapV m p s').2 := by
  unfold mapV
  split
  · rfl
  · split <;> rfl
/-- The law's plain part. -/
theorem keeps_plain (m : List Rng) (a b : Int) :
    (((sendV m (min a b) (max a b)).2.2 ≠ 0 ∨ (sendV m (max a b) (min a b)).2.2 ≠ 0) → (sendV m (min a b) (max a b)).1 = 0 ∧ (sendV m (min a b) (max a b)).2.1 = 0) ∧
    ((sendV m (min a b) (max a b)).2.2 = 0 → (sendV m (max a b) (min a b)).2.2 = 0 → (sendV m (min a b) (max a b)).1 ≤ (sendV m (min a b) (max a b)).2.1 ∧ (a = b ∨ ((sendV m (max a b) (min a b)).1 = (sendV m (min a b) (max a b)).2.1 ∧ (sendV m (max a b) (min a b)).2.1 = (sendV m (min a b) (max a b)).1))) := by
  obtain ⟨lo, hlo⟩ : ∃ lo, min a b = lo := ⟨_, rfl⟩
  obtain ⟨hi, hhi⟩ : ∃ hi, max a b = hi := ⟨_, rfl⟩
  rw [hlo, hhi]
  have hle : lo ≤ hi := by omega
  have e1 := mapV_err m lo (-1) 1
  have e2 := mapV_err m hi 1 (-1)
  have hmono : (mapV m lo (-1)).2 = 0 → (mapV m hi 1).2 = 0 → (mapV m lo (-1)).1 ≤ (mapV m hi 1).1 := by
    intro h1 h2
    unfold mapV at h1 h2 ⊢
    split at h1
    · simp at h1
    · rename_i hr
      rw [if_neg hr] at h2 ⊢
      split at h1
      · simp at h1
      · rename_i hp
        rw [if_neg hp]
        split at h2
        · simp at h2
        · rename_i hp2
          rw [if_neg hr, if_neg hp2]
          have hr2 : rightM 0 m = true := by
            have : rightB' m = true := by simpa using hr
            unfold rightB' at this
            rw [Bool.and_eq_true] at this
            exact this.1
          exact mapGo_mono hle m 0 0 hr2
  by_cases heq : lo = hi
  · subst heq
    have hab : a = b := by omega
    have hS : sendV m lo lo = if (mapV m lo (-1)).2 ≠ 0 then (0, 0, (mapV m lo (-1)).2) else if (mapV m lo 1).2 ≠ 0 then (0, 0, (mapV m lo 1).2) else ((mapV m lo (-1)).1, (mapV m lo 1).1, 0) := by
      unfold sendV
      simp only [Int.lt_irrefl, if_false]
    by_cases h1 : (mapV m lo (-1)).2 = 0
    · have h2 : (mapV m lo 1).2 = 0 := by omega
      rw [if_neg (by omega), if_neg (by omega)] at hS
      rw [hS]
      exact ⟨fun h => by simp at h, fun _ _ => ⟨hmono h1 h2, .inl hab⟩⟩
    · rw [if_pos h1] at hS
      rw [hS]
      exact ⟨fun _ => ⟨rfl, rfl⟩, fun h => absurd h h1⟩
  · have hlt : lo < hi := by omega
    have hS : sendV m lo hi = if (mapV m lo (-1)).2 ≠ 0 then (0, 0, (mapV m lo (-1)).2) else if (mapV m hi 1).2 ≠ 0 then (0, 0, (mapV m hi 1).2) else ((mapV m lo (-1)).1, (mapV m hi 1).1, 0) := by
      unfold sendV
      simp only [if_neg (show ¬ hi < lo by omega)]
    have hT : sendV m hi lo = if (mapV m hi 1).2 ≠ 0 then (0, 0, (mapV m hi 1).2) else if (mapV m lo (-1)).2 ≠ 0 then (0, 0, (mapV m lo (-1)).2) else ((mapV m hi 1).1, (mapV m lo (-1)).1, 0) := by
      unfold sendV
      simp only [if_pos hlt]
    by_cases h1 : (mapV m lo (-1)).2 = 0
    · by_cases h2 : (mapV m hi 1).2 = 0
      · rw [if_neg (by omega), if_neg (by omega)] at hS hT
        rw [hS, hT]
        exact ⟨fun h => by simp at h, fun _ _ => ⟨hmono h1 h2, .inr ⟨rfl, rfl⟩⟩⟩
      · rw [if_neg (by omega), if_pos h2] at hS
        rw [hS]
        exact ⟨fun _ => ⟨rfl, rfl⟩, fun h => absurd h h2⟩
    · rw [if_pos h1] at hS
      rw [hS]
      exact ⟨fun _ => ⟨rfl, rfl⟩, fun h => absurd h h1⟩
/-- A place out of a map, and the error. -/
def SpotE (v e : Int) (r : Ending) : Prop := ∃ (g : Bool) (i o : Int), r = .returned (.tuple #[.agg #[.int .i64 v, .bool g, .int .i64 i, .int .i64 o], .int .i64 e])
/-- What is wanted of pos.Map. -/
def MapC (w : World) (A : Option Addr) (c : Nat) (m : List Rng) : Prop := ∀ (W : World), Pure w W → ∀ p side : Int, Calls Tryd.prog 7 #[.slice A m.length c, .int .i64 p, .int .i64 side] W fun r w' => SpotE (mapV m p side).1 (mapV m p side).2 r ∧ Pure W w'
end Go.Proofs.YtfapglhdakhbeaaDoor
