/- Loops: which rows stay. Conditions: none (a library text). -/
import Derived.Test.YtnbmngpdbnkhaaaC7Typed
set_option linter.unusedVariables false
set_option linter.unusedSimpArgs false
namespace Go.Sk
open Go.RowKit

mutual
theorem renV_of {f : Nat → Nat} : ∀ x : AV, (∀ id ∈ idsV x, f id = id) → renV f x = x
  | .int .., _ | .bool _, _ | .str _, _ | .flt _, _ | .nil _, _ | .fz .., _ | .pz .., _ | .nilp, _ | .un, _ => rfl
  | .sref id n, h => by simp [renV, h id (by simp [idsV])]
  | .ptr id c, h => by simp [renV, h id (by simp [idsV])]
  | .ptrA id c j, h => by simp [renV, h id (by simp [idsV])]
  | .ptrE id e i c, h => by simp [renV, h id (by simp [idsV])]
  | .arr l, h => by simp only [idsV] at h; simp [renV, renL_of l h]
  | .agg l, h => by simp only [idsV] at h; simp [renV, renL_of l h]
  | .tup l, h => by simp only [idsV] at h; simp [renV, renL_of l h]
theorem renL_of {f : Nat → Nat} : ∀ l : List AV, (∀ id ∈ idsL l, f id = id) → renL f l = l
  | [], _ => rfl
  | x :: xs, h => by
    simp only [idsL, List.mem_append] at h
    simp [renL, renV_of x (fun id hid => h id (.inl hid)), renL_of xs (fun id hid => h id (.inr hid))]
end

theorem renR_of {f : Nat → Nat} (r : Row) (h : ∀ id ∈ idsR r, f id = id) : renR f r = r := by
  cases r with
  | box t v => simp [renR, renL_of v h]
  | _ => rfl

theorem gcF_range {n id : Nat} (h : id < n) : gcF (List.range n) id = id := by
  unfold gcF
  have hm : id ∈ List.range n := by simpa using h
  have h1 := List.idxOf_lt_length_of_mem hm
  have h2 := List.getElem_idxOf h1
  rw [List.getElem_range] at h2
  exact h2

/-- All rows stay. -/
theorem back_keep {kf : Nat} {T : List Nat} {J : Env → List Row → Prop} {env : Env} {rows : List Row} (hk : kf ≤ rows.length) (h1 : ∀ id ∈ idsL (T.map (look env)), id < rows.length) (h2 : ∀ r ∈ rows, ∀ j ∈ idsR r, j < rows.length)
    (hJ : J (T.map fun t => (t, look env t)) rows) : Back kf T J env rows := by
  refine ⟨List.range rows.length, ⟨by simpa using hk, fun i hi => by rw [List.getElem?_range (by omega)], List.nodup_range, fun id hid => by simpa using h1 id hid, fun id hid => ?_⟩, ?_⟩
  · simp only [List.mem_range] at hid
    exact ⟨rows[id], List.getElem?_eq_getElem hid, fun j hj => by simpa using h2 _ (List.getElem_mem hid) j hj⟩
  · have e1 : (T.map fun t => (t, renV (gcF (List.range rows.length)) (look env t))) = T.map fun t => (t, look env t) := by
      apply List.map_congr_left
      intro t ht
      rw [renV_of _ (fun id hid => gcF_range (h1 id (idsL_of (List.mem_map.2 ⟨t, ht, rfl⟩) hid)))]
    have e2 : gcRows (List.range rows.length) rows = rows := by
      apply List.ext_getElem?
      intro i
      simp only [gcRows, List.getElem?_map]
      rcases Nat.lt_or_ge i rows.length with hi | hi
      · rw [List.getElem?_range hi, List.getElem?_eq_getElem hi]
        simp only [Option.map_some, List.getD_eq_getElem?_getD, List.getElem?_eq_getElem hi, Option.getD_some]
        rw [renR_of _ (fun id hid => gcF_range (h2 _ (List.getElem_mem hi) id hid))]
      · rw [List.getElem?_eq_none (by simpa using hi), List.getElem?_eq_none hi]; rfl
    rw [e1, e2]; exact hJ

/-- The first rows stay. -/
theorem back_take {kf k : Nat} {T : List Nat} {J : Env → List Row → Prop} {env : Env} {rows : List Row} (hkf : kf ≤ k) (hk : k ≤ rows.length) (h1 : ∀ id ∈ idsL (T.map (look env)), id < k) (h2 : ∀ r ∈ rows.take k, ∀ j ∈ idsR r, j < k)
    (hJ : J (T.map fun t => (t, look env t)) (rows.take k)) : Back kf T J env rows := by
  refine ⟨List.range k, ⟨by simpa using hkf, fun i hi => by rw [List.getElem?_range (by omega)], List.nodup_range, fun id hid => by simpa using h1 id hid, fun id hid => ?_⟩, ?_⟩
  · simp only [List.mem_range] at hid
    have hid' : id < rows.length := by omega
    refine ⟨rows[id], List.getElem?_eq_getElem hid', fun j hj => ?_⟩
    have : rows[id] ∈ rows.take k := by
      rw [List.mem_take_iff_getElem]
      exact ⟨id, by omega, rfl⟩
    simpa using h2 _ this j hj
  · have e1 : (T.map fun t => (t, renV (gcF (List.range k)) (look env t))) = T.map fun t => (t, look env t) := by
      apply List.map_congr_left
      intro t ht
      rw [renV_of _ (fun id hid => gcF_range (h1 id (idsL_of (List.mem_map.2 ⟨t, ht, rfl⟩) hid)))]
    have e2 : gcRows (List.range k) rows = rows.take k := by
      apply List.ext_getElem?
      intro i
      simp only [gcRows, List.getElem?_map]
      rcases Nat.lt_or_ge i k with hi | hi
      · have hi' : i < rows.length := by omega
        rw [List.getElem?_range hi, List.getElem?_take, if_pos hi, List.getElem?_eq_getElem hi']
        simp only [Option.map_some, List.getD_eq_getElem?_getD, List.getElem?_eq_getElem hi', Option.getD_some]
        have hm : rows[i] ∈ rows.take k := by
          rw [List.mem_take_iff_getElem]
          exact ⟨i, by omega, rfl⟩
        rw [renR_of _ (fun id hid => gcF_range (h2 _ hm id hid))]
      · rw [List.getElem?_eq_none (by simpa using hi), List.getElem?_eq_none (by simp; omega)]; rfl
    rw [e1, e2]; exact hJ

theorem k_loop_n {kf : Nat} {T : List Nat} {I : Nat → Env → List Row → Prop} {n : Nat} {K : Ex → Env → List Row → Prop} {env : Env} {rows : List Row} (m : Nat) (hm : m < n) (h : Back kf T (I m) env rows) : loopK kf T I n K .n env rows := ⟨m, hm, h⟩
end Go.Sk
