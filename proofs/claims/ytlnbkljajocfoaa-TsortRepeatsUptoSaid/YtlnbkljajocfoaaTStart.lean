/- What Sort has made ahead of its first loop: no places in any list. -/
import Derived.Test.YtlnbkljajocfoaaTBuild
namespace Go.Proofs.Ytlnbkljajocfoaa.TStart
open Go Go.RowKit Topo TWords TGraph TRead TSorter TSlices TReverse TClone TCycle TMake TFam TBuild

theorem made_cell (z : Value) (hz : z.cells = #[z]) (n j : Nat) (hj : j < n) : (madeCells z.cells n)[j]? = some z := by
  rw [hz, ← Array.getElem?_toList, toList_madeCells_one, List.getElem?_replicate, if_pos hj]
theorem ecells_at (es : List (Nat × Nat)) : ∀ (i : Nat) (e : Nat × Nat), es[i]? = some e → (ecells (fresh es))[i * 3]? = some (.int .i64 (e.1 : Nat)) ∧ (ecells (fresh es))[i * 3 + 1]? = some (.int .i64 (e.2 : Nat)) ∧ (ecells (fresh es))[i * 3 + 2]? = some (.bool false) := by
  induction es with
  | nil => intro i e h; simp at h
  | cons p es ih =>
    intro i e h
    have ec : ecells (fresh (p :: es)) = Value.int .i64 (p.1 : Nat) :: Value.int .i64 (p.2 : Nat) :: Value.bool false :: ecells (fresh es) := by simp [ecells, fresh]
    rw [ec]
    cases i with
    | zero => simp at h; subst h; exact ⟨rfl, rfl, rfl⟩
    | succ i =>
      have := ih i e (by simpa using h)
      rw [show (i + 1) * 3 = i * 3 + 1 + 1 + 1 from by omega, show i * 3 + 1 + 1 + 1 + 1 = (i * 3 + 1) + 1 + 1 + 1 from rfl, show i * 3 + 1 + 1 + 1 + 2 = (i * 3 + 2) + 1 + 1 + 1 from rfl]
      simp only [List.getElem?_cons_succ]
      exact this
/-- where the constraints lie -/
theorem edges_at (d : Nat) {w : World} {base : Nat} {ea : Option Addr} {ec : Nat} {es : List (Nat × Nat)} (h : w.ownsRow base 57 3 (.slice ea es.length ec) es.length (ecells (fresh es))) :
    ∃ eb, (es ≠ [] → ea = some ⟨eb, 0, none⟩ ∧ base ≤ eb ∧ eb < w.heap.size) ∧ (es = [] → eb = d) ∧
      ∀ (i : Nat) (e : Nat × Nat), es[i]? = some e → w.cell? ⟨eb, i * 3, none⟩ = some (.int .i64 (e.1 : Nat)) ∧ w.cell? ⟨eb, i * 3 + 1, none⟩ = some (.int .i64 (e.2 : Nat)) ∧ w.cell? ⟨eb, i * 3 + 2, none⟩ = some (.bool false) ∧ w.frozen? ⟨eb, i * 3 + 2, none⟩ = false := by
  by_cases he : es = []
  · subst he
    exact ⟨d, fun h => absurd rfl h, fun _ => rfl, fun i e hi => by simp at hi⟩
  · rcases h.2 with ⟨_, h0⟩ | ⟨g, cap, cur, hv, hb, hg, hnc, hcm, hcs, htk⟩
    · exact absurd (List.eq_nil_of_length_eq_zero h0) he
    · injection hv with e1 e2 e3
      subst e1
      refine ⟨g, fun _ => ⟨rfl, hb, lt_of_block hg⟩, fun e => absurd e he, fun i e hi => ?_⟩
      obtain ⟨k0, k1, k2⟩ := ecells_at es i e hi
      have key : ∀ q u, (ecells (fresh es))[q]? = some u → w.cell? ⟨g, q, none⟩ = some u := by
        intro q u hu
        rw [cell_of_row w g q cur _ (0, 0) hg]
        rw [← htk, List.getElem?_take] at hu
        split at hu
        · simpa using hu
        · cases hu
      exact ⟨key _ _ k0, key _ _ k1, key _ _ k2, row_free hg _⟩
theorem Bd.start {w1 wx : World} {n ib ob nb db mb sb eb : Nat} {P4 V5 : Value} {E : Edges} (hM : Made n (.cells (madeCells (Value.slice none 0 0).cells n) 51) (.cells (madeCells (Value.int .i64 0).cells n) 3) (.cells (madeCells (Value.bool false).cells n) 4) P4 V5 w1 ib ob nb db mb sb wx)
    (heb : eb < w1.heap.size) (hE : ∀ (i : Nat) (e : Nat × Nat), E[i]? = some e → w1.cell? ⟨eb, i * 3, none⟩ = some (.int .i64 (e.1 : Nat)) ∧ w1.cell? ⟨eb, i * 3 + 1, none⟩ = some (.int .i64 (e.2 : Nat)) ∧ w1.cell? ⟨eb, i * 3 + 2, none⟩ = some (.bool false) ∧ w1.frozen? ⟨eb, i * 3 + 2, none⟩ = false) :
    Bd ⟨sb, ib, ob, nb, db, mb, eb, wx.heap.size⟩ n P4 V5 E (fun _ _ => .slice none 0 0) (fun _ _ => []) (fun _ => 0) wx := by
  obtain ⟨o1, o2, o3, o4, o5, o6⟩ := hM.old
  obtain ⟨a1, a2, a3, a4, a5, a6, a7, a8, a9, a10, a11, a12, a13, a14, a15⟩ := hM.apart
  refine ⟨hM.hs, ⟨fun b j hj => ⟨rfl, .inl ⟨rfl, rfl⟩⟩, fun b j c k _ _ _ g hg => by simp [Value.ownBlock] at hg⟩, fun j hj => ⟨?_, row_free hM.hi j⟩, fun j hj => ⟨?_, row_free hM.ho j⟩, fun j hj => ⟨?_, row_free hM.hn j⟩, fun j hj => ⟨?_, row_free hM.hd j⟩, fun i e he => ?_, hM.hm,
    ⟨lt_of_block hM.hs, lt_of_block hM.hi, lt_of_block hM.ho, lt_of_block hM.hn, lt_of_block hM.hd, lt_of_block hM.hm, Nat.lt_of_lt_of_le heb hM.below.size⟩, ⟨a1, a2, a3, a4, a5, by show ib ≠ eb; omega, a6, a7, a8, a9, by show ob ≠ eb; omega, a10, a11, a12, by show nb ≠ eb; omega⟩, Nat.le_refl _⟩
  · exact (row_cell hM.hi j).trans (made_cell _ rfl n j hj)
  · exact (row_cell hM.ho j).trans (made_cell _ rfl n j hj)
  · exact (row_cell hM.hn j).trans (made_cell _ rfl n j hj)
  · exact (row_cell hM.hd j).trans (made_cell _ rfl n j hj)
  · rw [hM.below.cell (p := ⟨eb, i * 3, none⟩) heb, hM.below.cell (p := ⟨eb, i * 3 + 1, none⟩) heb, hM.below.cell (p := ⟨eb, i * 3 + 2, none⟩) heb, World.frozen?_of_block (hM.below.block eb heb)]
    exact hE i e he
theorem addNew_ge (ls : List TPairs.Str) (x : TPairs.Str) : ls.length ≤ (addNew ls x).length := by
  unfold addNew; split <;> simp
theorem rd_ends (ps : List (TPairs.Str × TPairs.Str)) : ∀ e ∈ (rd ps).2, e.1 < (rd ps).1.length ∧ e.2 < (rd ps).1.length := by
  suffices h : ∀ (ps : List (TPairs.Str × TPairs.Str)) st, (∀ e ∈ st.2, e.1 < st.1.length ∧ e.2 < st.1.length) → ∀ e ∈ (ps.foldl rstep st).2, e.1 < (ps.foldl rstep st).1.length ∧ e.2 < (ps.foldl rstep st).1.length from
    h ps ([], []) (fun e he => by cases he)
  intro ps
  induction ps with
  | nil => intro st h; exact h
  | cons p ps ih =>
    intro st h
    rw [List.foldl_cons]
    apply ih
    have h1 := addNew_ge st.1 p.1
    have h2 := addNew_ge (addNew st.1 p.1) p.2
    have h3 := List.idxOf_lt_length_of_mem (mem_addNew st.1 p.1)
    have h4 := List.idxOf_lt_length_of_mem (mem_addNew (addNew st.1 p.1) p.2)
    intro e he
    show e.1 < (addNew (addNew st.1 p.1) p.2).length ∧ e.2 < (addNew (addNew st.1 p.1) p.2).length
    have hold : ∀ e ∈ st.2, e.1 < (addNew (addNew st.1 p.1) p.2).length ∧ e.2 < (addNew (addNew st.1 p.1) p.2).length := fun e he => by
      have := h e he
      omega
    simp only [rstep] at he
    split at he
    · exact hold e he
    · rcases List.mem_append.1 he with he | he
      · exact hold e he
      · simp at he
        subst he
        simp only
        omega
end Go.Proofs.Ytlnbkljajocfoaa.TStart
