/- What Sort's main loop holds: the sorter's memory out of the built lists, the names, the order and the cycles. -/
import Derived.Test.YtlnbkljajocfoaaTStart
import Derived.Test.YtlnbkljajocfoaaTopoInv
namespace Go.Proofs.Ytlnbkljajocfoaa.TOut
open Go Go.RowKit Go.ChangeMaps Go.MapKept Go.WideShapes Topo Strs TWords TPairs TGraph TRead TSorter TSlices TReverse TClone TCycle TMake TFam TBuild TStart

theorem Ints.of_row {w : World} {base : Nat} {v : Value} {xs : List Nat} (h : w.ownsRow base 3 1 v xs.length (icells xs)) : Ints w base v xs := by
  rcases h.2 with ⟨rfl, h0⟩ | ⟨g, cap, cur, rfl, hb, hg, hnc, hcm, hcs, htk⟩
  · exact ⟨none, 0, by rw [h0], ⟨by omega, Nat.zero_le _⟩, fun hne => absurd (List.eq_nil_of_length_eq_zero h0) hne⟩
  · refine ⟨_, cap, rfl, ⟨hnc, hcm⟩, fun _ => ⟨g, rfl, hb, lt_of_block hg, fun j x hj => ?_⟩⟩
    rw [cell_of_row w g j cur _ (0, 0) hg]
    have hj2 : (icells xs)[j]? = some (.int .i64 (x : Nat)) := by simp [icells, hj]
    rw [← htk, List.getElem?_take] at hj2
    split at hj2
    · simpa using hj2
    · cases hj2
theorem need_fresh (E : Edges) (j : Nat) : need E (fun _ => false) j = (into E j).length := by
  unfold need
  exact congrArg List.length (List.filter_eq_self.2 (fun _ _ => rfl))
/-- the built lists: a sorter's memory -/
theorem Bd.sr {sb ib ob nb db mb eb lim g n ec : Nat} {ea : Option Addr} {E : Edges} {val : Bool → Nat → Value} {lst : Bool → Nat → List Nat} {nd : Nat → Nat} {w : World}
    (h : Bd ⟨sb, ib, ob, nb, db, mb, eb, lim⟩ n (.pointer (some ⟨g, 0, none⟩)) (.slice ea E.length ec) E val lst nd w)
    (hl0 : ∀ j, lst false j = into E j) (hl1 : ∀ j, lst true j = outof E j) (hnd : ∀ j, nd j = (into E j).length) (hends : ∀ e ∈ E, e.1 < n ∧ e.2 < n)
    (hea : E ≠ [] → ea = some ⟨eb, 0, none⟩) (hn : n ≤ maxLen) (hec : E.length ≤ ec ∧ ec ≤ maxLen) (hm : mb ≠ sb ∧ mb ≠ db ∧ mb ≠ eb) (he : eb ≠ sb ∧ eb ≠ db) (hd : db ≠ sb ∧ db ≠ ib ∧ db ≠ ob) :
    Sr ⟨sb, g, eb, ib, ob, nb, db, mb, lim, ea, ec, n⟩ E n (fun _ => false) (fun _ => false) w := by
  obtain ⟨t1, t2, t3, t4, t5, t6, t7⟩ := h.lt
  obtain ⟨a1, a2, a3, a4, a5, a6, a7, a8, a9, a10, a11, a12, a13, a14, a15⟩ := h.apart
  refine ⟨row_cell h.srt 0, row_cell h.srt 6, ⟨hm.1, hm.2.2, Ne.symm a4, Ne.symm a9, Ne.symm a13, hm.2.1⟩, ⟨t1, t2, t3⟩, row_cell h.srt 1, row_cell h.srt 2, row_cell h.srt 3, row_cell h.srt 4, row_cell h.srt 5, ⟨Nat.le_refl _, hn, hec.1, hec.2⟩,
    fun i e hi => hends e (List.mem_of_getElem? hi), hea, h.edge, fun j hj => ?_, h.dcs, fun j hj => ⟨_, (h.ics j hj).1, ?_⟩, fun j hj => ⟨_, (h.ocs j hj).1, ?_⟩,
    ⟨he.1, Ne.symm a15, Ne.symm a6, Ne.symm a11, he.2, a14, Ne.symm a2, Ne.symm a7, a12, hd.1, hd.2.1, hd.2.2⟩, ⟨t7, t4, t5, t6⟩, h.room⟩
  · rw [need_fresh, ← hnd]
    exact h.ncs j hj
  · rw [← hl0]
    exact Ints.of_row (h.fam.own false j hj)
  · rw [← hl1]
    exact Ints.of_row (h.fam.own true j hj)
theorem map_ok {L : Lay} {w : World} (h : w.heap[L.mb]? = some (.map #[] 0)) : MapOk L w :=
  ⟨.map [], 0, #[], 0, h, ⟨by simp, stamped_empty 0, by simp⟩, Nat.le_refl _, rfl⟩
/-- the graph's names -/
structure Nms (g gb : Nat) (na : Option Addr) (nc : Nat) (ls : List Str) (w : World) : Prop where
  c0 : w.cell? ⟨g, 0, none⟩ = some (.slice na ls.length nc)
  here : ls ≠ [] → na = some ⟨gb, 0, none⟩
  cells : ∀ j x, ls[j]? = some x → w.cell? ⟨gb, j, none⟩ = some (.string ⟨x.toArray⟩)
theorem Nms.keep {g gb : Nat} {na : Option Addr} {nc : Nat} {ls : List Str} {w w' : World} (h : Nms g gb na nc ls w) (h1 : w'.heap[g]? = w.heap[g]?) (h2 : w'.heap[gb]? = w.heap[gb]?) : Nms g gb na nc ls w' :=
  ⟨(World.cell?_of_block h1).trans h.c0, h.here, fun j x hj => (World.cell?_of_block h2).trans (h.cells j x hj)⟩
theorem nms_of {m base : Nat} {na : Option Addr} {nc g : Nat} {ls : List Str} {w : World} {ed : Value} (h : Gr g m base ls (.slice na ls.length nc) w) (ha : Apart (.slice na ls.length nc) ed) :
    ∃ gb, Nms g gb na nc ls w ∧ (ls ≠ [] → base ≤ gb ∧ ed.ownBlock ≠ some gb) ∧ (ls = [] → gb = g) ∧ gb < w.heap.size := by
  have hg := lt_of_block h.cells
  by_cases he : ls = []
  · subst he
    exact ⟨g, ⟨row_cell h.cells 0, fun e => absurd rfl e, fun j x hj => by simp at hj⟩, fun e => absurd rfl e, fun _ => rfl, hg⟩
  · rcases h.names.2 with ⟨_, h0⟩ | ⟨g', cap, cur, hv, hb, hg', hnc, hcm, hcs, htk⟩
    · exact absurd (List.eq_nil_of_length_eq_zero h0) he
    · injection hv with e1 e2 e3
      subst e1
      refine ⟨g', ⟨row_cell h.cells 0, fun _ => rfl, fun j x hj => ?_⟩, fun _ => ⟨hb, ha _ rfl⟩, fun e => absurd e he, lt_of_block hg'⟩
      rw [cell_of_row w g' j cur _ (0, 0) hg']
      have hj2 : (cellsOf ls)[j]? = some (.string ⟨x.toArray⟩) := by simp [cellsOf, hj]
      rw [← htk, List.getElem?_take] at hj2
      split at hj2
      · simpa using hj2
      · cases hj2
/-- the names of numbers -/
def nm (ls : List Str) (i : Nat) : Str := ls.getD i []
/-- the order and the cycles while they grow: rows from block B on that share no block -/
structure Out (B : Nat) (v2 v3 : Value) (os : List Str) (cs : List (List Str)) (cvs : List Value) (w : World) : Prop where
  order : w.ownsRow B 9 1 v2 os.length (cellsOf os)
  rows : w.ownsRow B 30 1 v3 cs.length cvs
  lists : ∀ (i : Nat) cv ss, cvs[i]? = some cv → cs[i]? = some ss → w.ownsRow B 9 1 cv ss.length (cellsOf ss)
  apart : ∀ q, v2.ownBlock = some q → v3.ownBlock ≠ some q
  far : ∀ cv ∈ cvs, ∀ q, cv.ownBlock = some q → v2.ownBlock ≠ some q ∧ v3.ownBlock ≠ some q
section
variable {B : Nat} {v2 v3 : Value} {os : List Str} {cs : List (List Str)} {cvs : List Value} {w w' : World}
theorem Out.start (B : Nat) (w : World) : Out B (.slice none 0 0) (.slice none 0 0) [] [] [] w :=
  ⟨⟨rfl, .inl ⟨rfl, rfl⟩⟩, ⟨rfl, .inl ⟨rfl, rfl⟩⟩, fun i cv ss h => by simp at h, fun q h => by simp [Value.ownBlock] at h, fun cv h => by cases h⟩
theorem Out.len (h : Out B v2 v3 os cs cvs w) : cvs.length = cs.length := by simpa using h.rows.1
theorem Out.blocks (h : Out B v2 v3 os cs cvs w) : (∀ q, v2.ownBlock = some q → B ≤ q ∧ q < w.heap.size) ∧ (∀ q, v3.ownBlock = some q → B ≤ q ∧ q < w.heap.size) ∧ ∀ cv ∈ cvs, ∀ q, cv.ownBlock = some q → B ≤ q ∧ q < w.heap.size := by
  refine ⟨ownsRow_block h.order, ownsRow_block h.rows, fun cv hcv => ?_⟩
  obtain ⟨i, hi⟩ := List.getElem?_of_mem hcv
  have hlt : i < cs.length := by
    rcases Nat.lt_or_ge i cvs.length with h1 | h1
    · rw [← h.len]; exact h1
    · rw [List.getElem?_eq_none h1] at hi; cases hi
  exact ownsRow_block (h.lists i cv _ hi (List.getElem?_eq_getElem hlt))
theorem Out.keep (h : Out B v2 v3 os cs cvs w) (hk : ∀ q, B ≤ q → q < w.heap.size → w'.heap[q]? = w.heap[q]?) : Out B v2 v3 os cs cvs w' := by
  obtain ⟨b1, b2, b3⟩ := h.blocks
  exact ⟨ownsRow_keep h.order fun q hq => hk q (b1 q hq).1 (b1 q hq).2, ownsRow_keep h.rows fun q hq => hk q (b2 q hq).1 (b2 q hq).2,
    fun i cv ss h1 h2 => ownsRow_keep (h.lists i cv ss h1 h2) fun q hq => hk q (b3 cv (List.mem_of_getElem? h1) q hq).1 (b3 cv (List.mem_of_getElem? h1) q hq).2, h.apart, h.far⟩
/-- a name is appended to the order -/
theorem Out.addOrder (h : Out B v2 v3 os cs cvs w) {g cap H : Nat} {x : Str} (hown : w'.ownsRow B 9 1 (.slice (some ⟨g, 0, none⟩) (os.length + 1) cap) (os.length + 1) (cellsOf os ++ [.string ⟨x.toArray⟩]))
    (hk : ∀ q, q < w.heap.size → v2.ownBlock ≠ some q → w'.heap[q]? = w.heap[q]?) (hat : v2.ownBlock = some g ∨ g = H) (hH : w.heap.size ≤ H) : Out B (.slice (some ⟨g, 0, none⟩) (os.length + 1) cap) v3 (os ++ [x]) cs cvs w' := by
  obtain ⟨b1, b2, b3⟩ := h.blocks
  refine ⟨?_, ownsRow_keep h.rows fun q hq => hk q (b2 q hq).2 (fun e => h.apart q e hq), fun i cv ss h1 h2 => ownsRow_keep (h.lists i cv ss h1 h2) fun q hq => hk q (b3 cv (List.mem_of_getElem? h1) q hq).2 (fun e => (h.far cv (List.mem_of_getElem? h1) q hq).1 e), fun q hq => ?_, fun cv hcv q hq => ⟨?_, (h.far cv hcv q hq).2⟩⟩
  · rw [cellsOf_append, List.length_append]
    exact hown
  · have e : g = q := by simpa [Value.ownBlock] using hq
    subst e
    rcases hat with h1 | h1
    · exact h.apart g h1
    · intro h2; have := (b2 g h2).2; omega
  · intro hq2
    have e : g = q := by simpa [Value.ownBlock] using hq2
    subst e
    rcases hat with h1 | h1
    · exact (h.far cv hcv g hq).1 h1
    · have := (b3 cv hcv g hq).2; omega
/-- a list of names is appended to the cycles -/
theorem Out.addCycle (h : Out B v2 v3 os cs cvs w) {g cap H : Nat} {cv : Value} {ss : List Str} (hcv : w.ownsRow B 9 1 cv ss.length (cellsOf ss)) (hfar : ∀ q, cv.ownBlock = some q → v2.ownBlock ≠ some q ∧ v3.ownBlock ≠ some q)
    (hown : w'.ownsRow B 30 1 (.slice (some ⟨g, 0, none⟩) (cs.length + 1) cap) (cs.length + 1) (cvs ++ [cv]))
    (hk : ∀ q, q < w.heap.size → v3.ownBlock ≠ some q → w'.heap[q]? = w.heap[q]?) (hat : v3.ownBlock = some g ∨ g = H) (hH : w.heap.size ≤ H) : Out B v2 (.slice (some ⟨g, 0, none⟩) (cs.length + 1) cap) os (cs ++ [ss]) (cvs ++ [cv]) w' := by
  obtain ⟨b1, b2, b3⟩ := h.blocks
  have b4 := ownsRow_block hcv
  refine ⟨ownsRow_keep h.order fun q hq => hk q (b1 q hq).2 (fun e => h.apart q hq e), by rw [List.length_append]; exact hown, fun i cv' ss' h1 h2 => ?_, fun q hq => ?_, fun cv' hcv' q hq => ?_⟩
  · by_cases hi : i < cs.length
    · rw [List.getElem?_append_left (by rw [h.len]; exact hi)] at h1
      rw [List.getElem?_append_left hi] at h2
      exact ownsRow_keep (h.lists i cv' ss' h1 h2) fun q hq => hk q (b3 cv' (List.mem_of_getElem? h1) q hq).2 (fun e => (h.far cv' (List.mem_of_getElem? h1) q hq).2 e)
    · have hi2 : i < (cs ++ [ss]).length := by
        rcases Nat.lt_or_ge i (cs ++ [ss]).length with h3 | h3
        · exact h3
        · rw [List.getElem?_eq_none h3] at h2; cases h2
      rw [List.length_append, List.length_singleton] at hi2
      have hie : i = cs.length := by omega
      subst hie
      rw [List.getElem?_append_right (by rw [h.len]; exact Nat.le_refl _), h.len, Nat.sub_self] at h1
      rw [List.getElem?_append_right (Nat.le_refl _), Nat.sub_self] at h2
      have e1 : cv = cv' := by simpa using h1
      have e2 : ss = ss' := by simpa using h2
      subst e1 e2
      exact ownsRow_keep hcv fun q hq => hk q (b4 q hq).2 (fun e => (hfar q hq).2 e)
  · intro hq2
    have e : g = q := by simpa [Value.ownBlock] using hq2
    subst e
    rcases hat with h1 | h1
    · exact h.apart g hq h1
    · have := (b1 g hq).2; omega
  · rcases List.mem_append.1 hcv' with h1 | h1
    · refine ⟨(h.far cv' h1 q hq).1, fun hq2 => ?_⟩
      have e : g = q := by simpa [Value.ownBlock] using hq2
      subst e
      rcases hat with h2 | h2
      · exact (h.far cv' h1 g hq).2 h2
      · have := (b3 cv' h1 g hq).2; omega
    · rw [List.mem_singleton] at h1
      subst h1
      refine ⟨(hfar q hq).1, fun hq2 => ?_⟩
      have e : g = q := by simpa [Value.ownBlock] using hq2
      subst e
      rcases hat with h2 | h2
      · exact (hfar g hq).2 h2
      · have := (b4 g hq).2; omega
end
/-- slice value v reads as lists of strings -/
def Lists (w : World) (v : Value) (cs : List (List Str)) : Prop :=
  ∃ a c, v = .slice a cs.length c ∧ (cs.length ≤ c ∧ c ≤ maxLen) ∧ (cs ≠ [] → ∃ b, a = some ⟨b, 0, none⟩ ∧ ∀ (i : Nat) ss, cs[i]? = some ss → ∃ cv, w.cell? ⟨b, i, none⟩ = some cv ∧ Strs w cv ss)
theorem Lists.below {w w' : World} {v : Value} {cs : List (List Str)} (h : Lists w v cs) (hb : Below w.heap.size w w') : Lists w' v cs := by
  obtain ⟨a, c, rfl, hm, hc⟩ := h
  refine ⟨a, c, rfl, hm, fun hne => ?_⟩
  obtain ⟨b, rfl, hcell⟩ := hc hne
  refine ⟨b, rfl, fun i ss hi => ?_⟩
  obtain ⟨cv, h1, h2⟩ := hcell i ss hi
  exact ⟨cv, (hb.cell (World.block_lt_of_cell? w ⟨b, i, none⟩ h1)).trans h1, h2.below hb⟩
theorem Out.strs {B : Nat} {v2 v3 : Value} {os : List Str} {cs : List (List Str)} {cvs : List Value} {w : World} (h : Out B v2 v3 os cs cvs w) : Strs w v2 os := Strs.of_row (Own.Row.of h.order)
theorem Lists.of_row {B : Nat} {v3 : Value} {cs : List (List Str)} {cvs : List Value} {w : World} (hr : w.ownsRow B 30 1 v3 cs.length cvs) (hl : ∀ (i : Nat) cv ss, cvs[i]? = some cv → cs[i]? = some ss → w.ownsRow B 9 1 cv ss.length (cellsOf ss)) : Lists w v3 cs := by
  have hlen : cvs.length = cs.length := by simpa using hr.1
  rcases hr.2 with ⟨rfl, h0⟩ | ⟨g, cap, cur, rfl, hb, hg, hnc, hcm, hcs, htk⟩
  · exact ⟨none, 0, by rw [h0], ⟨by omega, Nat.zero_le _⟩, fun hne => absurd (List.eq_nil_of_length_eq_zero h0) hne⟩
  · refine ⟨_, cap, rfl, ⟨hnc, hcm⟩, fun _ => ⟨g, rfl, fun i ss hi => ?_⟩⟩
    have hlt : i < cvs.length := by
      rw [hlen]
      rcases Nat.lt_or_ge i cs.length with h1 | h1
      · exact h1
      · rw [List.getElem?_eq_none h1] at hi; cases hi
    obtain ⟨cv, hcv⟩ : ∃ cv, cvs[i]? = some cv := ⟨_, List.getElem?_eq_getElem hlt⟩
    refine ⟨cv, ?_, Strs.of_row (Own.Row.of (hl i _ ss hcv hi))⟩
    rw [cell_of_row w g i cur _ (0, 0) hg]
    rw [← htk, List.getElem?_take] at hcv
    split at hcv
    · simpa using hcv
    · cases hcv
theorem Out.lists3 {B : Nat} {v2 v3 : Value} {os : List Str} {cs : List (List Str)} {cvs : List Value} {w : World} (h : Out B v2 v3 os cs cvs w) : Lists w v3 cs := Lists.of_row h.rows h.lists
theorem rd_apart (ps : List (Str × Str)) : ∀ e ∈ (rd ps).2, e.1 ≠ e.2 := by
  suffices h : ∀ (ps : List (Str × Str)) st, (∀ e ∈ st.2, e.1 ≠ e.2) → ∀ e ∈ (ps.foldl rstep st).2, e.1 ≠ e.2 from h ps ([], []) (fun e he => by cases he)
  intro ps
  induction ps with
  | nil => intro st h; exact h
  | cons p ps ih =>
    intro st h
    rw [List.foldl_cons]
    apply ih
    intro e he
    simp only [rstep] at he
    split at he
    · exact h e he
    · rename_i hne
      rcases List.mem_append.1 he with he | he
      · exact h e he
      · simp at he
        subst he
        exact hne
theorem rd_wf (ps : List (Str × Str)) : Wf (rd ps).2 (rd ps).1.length := by
  have key : ∀ i, i < (rd ps).2.length → (rd ps).2.getD i (0, 0) ∈ (rd ps).2 := fun i hi => mem_of_getD hi rfl
  exact ⟨fun i hi => rd_ends ps _ (key i hi), fun i hi => rd_apart ps _ (key i hi)⟩
theorem find_is {n x : Nat} {p : Nat → Bool} (hx : x < n) (hp : p x = true) (hb : ∀ y, y < x → p y = false) : (List.range n).find? p = some x := by
  cases hf : (List.range n).find? p with
  | none => have := find_none_iff.1 hf x (List.mem_range.2 hx); rw [hp] at this; cases this
  | some z =>
    obtain ⟨-, h2, h3⟩ := find_range hf
    rcases Nat.lt_trichotomy z x with h | h | h
    · rw [hb z h] at h2; cases h2
    · rw [h]
    · rw [h3 x h] at hp; cases hp
theorem find_no {n : Nat} {p : Nat → Bool} (hb : ∀ y, y < n → p y = false) : (List.range n).find? p = none := find_none_iff.2 fun y hy => hb y (List.mem_range.1 hy)
/-- an element is done -/
theorem Sr.mark {L : Lay} {E : Edges} {n : Nat} {gone done : Nat → Bool} {w : World} (h : Sr L E n gone done w) (f : Nat) : Sr L E n gone (fun k => done k || k == f) (w.setCell ⟨L.db, f, none⟩ (.bool true)) := by
  obtain ⟨a1, a2, a3, a4, a5, a6, a7, a8, a9, a10, a11, a12⟩ := h.apart
  have hk : ∀ k, k ≠ L.db → (w.setCell ⟨L.db, f, none⟩ (.bool true)).heap[k]? = w.heap[k]? := fun k hk => Below.heap_setCell _ _ _ _ hk
  have hc : ∀ b j, b ≠ L.db → (w.setCell ⟨L.db, f, none⟩ (.bool true)).cell? ⟨b, j, none⟩ = w.cell? ⟨b, j, none⟩ := fun b j hb => World.cell?_of_block (hk b hb)
  refine h.write (by simp [World.setCell]) (fun k _ _ h3 => hk k h3) (fun i e he => ?_) (fun j hj => ?_) (fun j hj => ?_)
  · rw [hc _ _ a5, hc _ _ a5, hc _ _ a5, World.frozen?_setCell]
    exact h.edge i e he
  · rw [hc _ _ a9, World.frozen?_setCell]
    exact h.need j hj
  · obtain ⟨d0, df⟩ := h.done j hj
    refine ⟨?_, by rw [World.frozen?_setCell]; exact df⟩
    by_cases e : j = f
    · subst e
      rw [World.cell?_setCell_same _ _ _ d0]
      simp
    · rw [World.cell?_setCell_other _ _ _ _ (by simp <;> omega), d0]
      have : (j == f) = false := by simpa using e
      simp [this]
/-- the lists of places lie below block B -/
def Low (B : Nat) (L : Lay) (n : Nat) (w : World) : Prop := ∀ j, j < n → ∀ v, (w.cell? ⟨L.ib, j, none⟩ = some v ∨ w.cell? ⟨L.ob, j, none⟩ = some v) → ∀ q, v.ownBlock = some q → q < B
theorem Low.keep {B : Nat} {L : Lay} {n : Nat} {w w' : World} (h : Low B L n w) (h1 : w'.heap[L.ib]? = w.heap[L.ib]?) (h2 : w'.heap[L.ob]? = w.heap[L.ob]?) : Low B L n w' := by
  intro j hj v hv
  rw [World.cell?_of_block (a := ⟨L.ib, j, none⟩) h1, World.cell?_of_block (a := ⟨L.ob, j, none⟩) h2] at hv
  exact h j hj v hv
/-- blocks below B are as they were (but the map's), where the lists of places lie below B -/
theorem Sr.grow {L : Lay} {E : Edges} {n : Nat} {gone done : Nat → Bool} {w w' : World} {B : Nat} (h : Sr L E n gone done w) (hlow : Low B L n w) (hB : L.lim ≤ B) (hs : w.heap.size ≤ w'.heap.size) (hk : ∀ k, k < B → k ≠ L.mb → w'.heap[k]? = w.heap[k]?) : Sr L E n gone done w' := by
  obtain ⟨m1, m2, m3, m4, m5, m6⟩ := h.mapart
  obtain ⟨b1, b2, b3, b4⟩ := h.below
  obtain ⟨s1, s2, s3⟩ := h.sbl
  have hr := h.room
  have hc : ∀ b j, b < B → b ≠ L.mb → w'.cell? ⟨b, j, none⟩ = w.cell? ⟨b, j, none⟩ := fun b j h1 h2 => World.cell?_of_block (hk b h1 h2)
  have hf : ∀ b j, b < B → b ≠ L.mb → w'.frozen? ⟨b, j, none⟩ = w.frozen? ⟨b, j, none⟩ := fun b j h1 h2 => World.frozen?_of_block (hk b h1 h2)
  have hI : ∀ v xs, (∀ q, v.ownBlock = some q → q < B) → Ints w L.lim v xs → Ints w' L.lim v xs := fun v xs hlo hv => by
    obtain ⟨a, c, rfl, hm, hcc⟩ := hv
    refine ⟨a, c, rfl, hm, fun hne => ?_⟩
    obtain ⟨b, rfl, hl, hb, hcell⟩ := hcc hne
    exact ⟨b, rfl, hl, by omega, fun j x hj => by rw [hc b j (hlo b rfl) (by omega)]; exact hcell j x hj⟩
  refine ⟨by rw [hc _ _ (by omega) (Ne.symm m1)]; exact h.c0, by rw [hc _ _ (by omega) (Ne.symm m1)]; exact h.c6, h.mapart, h.sbl, by rw [hc _ _ (by omega) (Ne.symm m1)]; exact h.c1, by rw [hc _ _ (by omega) (Ne.symm m1)]; exact h.c2, by rw [hc _ _ (by omega) (Ne.symm m1)]; exact h.c3, by rw [hc _ _ (by omega) (Ne.symm m1)]; exact h.c4, by rw [hc _ _ (by omega) (Ne.symm m1)]; exact h.c5, h.bound, h.ends, h.ea, ?_, ?_, ?_, ?_, ?_, h.apart, h.below, by omega⟩
  · intro i e he
    rw [hc _ _ (by omega) (Ne.symm m2), hc _ _ (by omega) (Ne.symm m2), hc _ _ (by omega) (Ne.symm m2), hf _ _ (by omega) (Ne.symm m2)]
    exact h.edge i e he
  · intro j hj
    rw [hc _ _ (by omega) (Ne.symm m5), hf _ _ (by omega) (Ne.symm m5)]
    exact h.need j hj
  · intro j hj
    rw [hc _ _ (by omega) (Ne.symm m6), hf _ _ (by omega) (Ne.symm m6)]
    exact h.done j hj
  · intro j hj
    obtain ⟨v, h1, h2⟩ := h.ins j hj
    exact ⟨v, by rw [hc _ _ (by omega) (Ne.symm m3)]; exact h1, hI _ _ (hlow j hj v (.inl h1)) h2⟩
  · intro j hj
    obtain ⟨v, h1, h2⟩ := h.outs j hj
    exact ⟨v, by rw [hc _ _ (by omega) (Ne.symm m4)]; exact h1, hI _ _ (hlow j hj v (.inr h1)) h2⟩
theorem _root_.Go.Proofs.Ytlnbkljajocfoaa.TBuild.Bd.low {sb ib ob nb db mb eb lim g n ec : Nat} {ea : Option Addr} {E : Edges} {val : Bool → Nat → Value} {lst : Bool → Nat → List Nat} {nd : Nat → Nat} {w : World}
    (h : Bd ⟨sb, ib, ob, nb, db, mb, eb, lim⟩ n (.pointer (some ⟨g, 0, none⟩)) (.slice ea E.length ec) E val lst nd w) : Low w.heap.size ⟨sb, g, eb, ib, ob, nb, db, mb, lim, ea, ec, n⟩ n w := by
  intro j hj v hv q hq
  rcases hv with hv | hv
  · have e := (h.ics j hj).1.symm.trans hv
    injection e with e
    subst e
    exact (h.fam.lt false j hj q hq).2
  · have e := (h.ocs j hj).1.symm.trans hv
    injection e with e
    subst e
    exact (h.fam.lt true j hj q hq).2
theorem map_keep {L : Lay} {w w' : World} (h : MapOk L w) (hk : w'.heap[L.mb]? = w.heap[L.mb]?) : MapOk L w' := by
  obtain ⟨D, m, es, clock, hb, hr⟩ := h
  exact ⟨D, m, es, clock, hk.trans hb, hr⟩
theorem rems_snoc (g : Nat → Bool) (l : List Nat) (q i : Nat) (h : l[q]? = some i) : rems g (l.take (q + 1)) = rem (rems g (l.take q)) i := by
  rw [List.take_add_one, h]
  simp [rems, List.foldl_append]
theorem filter_snoc (l : List Nat) (p : Nat → Bool) (q i : Nat) (h : l[q]? = some i) : (l.take (q + 1)).filter p = (l.take q).filter p ++ if p i then [i] else [] := by
  rw [List.take_add_one, h, List.filter_append]
  congr 1
  simp [List.filter_cons]
theorem Sr.drewN {L : Lay} {E : Edges} {n : Nat} {gone done : Nat → Bool} {w : World} (h : Sr L E n gone done w) (k : Nat) : Sr L E n gone done (w.drewN k) := h.write rfl (fun _ _ _ _ => rfl) h.edge h.need h.done
theorem ints_cells {w : World} {base gc n cc : Nat} {xs : List Nat} (h : w.ownsRow base 3 1 (.slice (some ⟨gc, 0, none⟩) n cc) n (icells xs)) : xs.length = n ∧ base ≤ gc ∧ gc < w.heap.size ∧ n ≤ cc ∧ cc ≤ maxLen ∧ ∀ (j : Nat) x, xs[j]? = some x → w.cell? ⟨gc, j, none⟩ = some (.int .i64 (x : Nat)) := by
  have hl : xs.length = n := by have := h.1; simpa [icells] using this
  subst hl
  rcases h.2 with ⟨h0, _⟩ | ⟨g, cap, cur, hv, hb, hg, hnc, hcm, hcs, htk⟩
  · cases h0
  · injection hv with e1 e2 e3
    injection e1 with e1
    injection e1 with e1
    subst e1 e3
    refine ⟨rfl, hb, lt_of_block hg, hnc, hcm, fun j x hj => ?_⟩
    rw [cell_of_row w gc j cur _ (0, 0) hg]
    have hj2 : (icells xs)[j]? = some (.int .i64 (x : Nat)) := by simp [icells, hj]
    rw [← htk, List.getElem?_take] at hj2
    split at hj2
    · simpa using hj2
    · cases hj2
theorem nm_at {ls : List Str} {k : Nat} (h : k < ls.length) : ls[k]? = some (nm ls k) := by
  unfold nm
  rw [List.getD_eq_getElem?_getD, List.getElem?_eq_getElem h]
  rfl
theorem strs_info : (Try.prog.info? 30).map (fun i => (i.zero, i.size, i.bytes)) = some (some (.slice none 0 0), 1, 24) := by kernel_rfl
/-- the state of the main loop -/
def Main (w : World) (L : Lay) (E : Edges) (ls : List Str) (gb : Nat) (na : Option Addr) (nc B : Nat) (v2 v3 : Value) (wm : World) : Prop :=
  ∃ (K : Nat) (cvs : List Value), Topo.Good E ls.length (run E ls.length K) ∧ (∀ j, j < K → (run E ls.length j).order.length < ls.length) ∧ Sr L E ls.length (run E ls.length K).gone (run E ls.length K).done wm ∧ MapOk L wm ∧ Nms L.g gb na nc ls wm ∧
    Out B v2 v3 ((run E ls.length K).order.map (nm ls)) ((run E ls.length K).cycles.map (List.map (nm ls))) cvs wm ∧ Low B L ls.length wm ∧ B ≤ wm.heap.size ∧ Below w.heap.size w wm
/-- what Sort returns -/
def SPost (w : World) (ps : List (Str × Str)) (e : Ending) (w' : World) : Prop :=
  ∃ v2 v3 K, e = .returned (.tuple #[v2, v3]) ∧ Topo.Good (rd ps).2 (rd ps).1.length (run (rd ps).2 (rd ps).1.length K) ∧ (run (rd ps).2 (rd ps).1.length K).order.length = (rd ps).1.length ∧ (∀ j, j < K → (run (rd ps).2 (rd ps).1.length j).order.length < (rd ps).1.length) ∧
    Strs w' v2 ((run (rd ps).2 (rd ps).1.length K).order.map (nm (rd ps).1)) ∧ Lists w' v3 ((run (rd ps).2 (rd ps).1.length K).cycles.map (List.map (nm (rd ps).1))) ∧ Below w.heap.size w w'
end Go.Proofs.Ytlnbkljajocfoaa.TOut
