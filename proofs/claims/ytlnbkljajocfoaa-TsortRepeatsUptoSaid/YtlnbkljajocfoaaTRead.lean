/- tsort.read returns the elements, numbered in the order in which they are named, and the constraints between their numbers; for at most 2^24 pairs of strings of at most 2^40 bytes. -/
import Derived.Test.YtlnbkljajocfoaaTGraph
import Derived.Deep.RegionHeld3
namespace Go.Proofs.Ytlnbkljajocfoaa.TRead
open Go Go.RowKit Go.Maps Go.WideMaps Strs TWords TPairs TGraph

/-- one pair more -/
def rstep (st : List Str × List (Nat × Nat)) (p : Str × Str) : List Str × List (Nat × Nat) :=
  (addNew (addNew st.1 p.1) p.2, if (addNew st.1 p.1).idxOf p.1 = (addNew (addNew st.1 p.1) p.2).idxOf p.2 then st.2 else st.2 ++ [((addNew st.1 p.1).idxOf p.1, (addNew (addNew st.1 p.1) p.2).idxOf p.2)])
def rd (ps : List (Str × Str)) : List Str × List (Nat × Nat) := ps.foldl rstep ([], [])
theorem rd_take (ps : List (Str × Str)) (k : Nat) (p : Str × Str) (h : ps[k]? = some p) : rd (ps.take (k + 1)) = rstep (rd (ps.take k)) p := by
  rw [List.take_add_one, h]
  simp [rd, List.foldl_append]
theorem rd_len (ps : List (Str × Str)) : (rd ps).1.length ≤ 2 * ps.length ∧ (rd ps).2.length ≤ ps.length := by
  suffices h : ∀ (ps : List (Str × Str)) st, (ps.foldl rstep st).1.length ≤ st.1.length + 2 * ps.length ∧ (ps.foldl rstep st).2.length ≤ st.2.length + ps.length by
    have := h ps ([], [])
    simpa [rd] using this
  intro ps
  induction ps with
  | nil => intro st; simp
  | cons p ps ih =>
    intro st
    rw [List.foldl_cons]
    have h := ih (rstep st p)
    have h1 := addNew_length st.1 p.1
    have h2 := addNew_length (addNew st.1 p.1) p.2
    have h3 : (rstep st p).1.length ≤ st.1.length + 2 := by simp only [rstep]; omega
    have h4 : (rstep st p).2.length ≤ st.2.length + 1 := by simp only [rstep]; split <;> simp
    simp only [List.length_cons]
    omega
/-- the cells of constraints -/
def ecells (es : List ((Nat × Nat) × Bool)) : List Value := es.flatMap fun e => [.int .i64 (e.1.1 : Nat), .int .i64 (e.1.2 : Nat), .bool e.2]
theorem ecells_append (a b : List ((Nat × Nat) × Bool)) : ecells (a ++ b) = ecells a ++ ecells b := by simp [ecells]
def fresh (es : List (Nat × Nat)) : List ((Nat × Nat) × Bool) := es.map fun e => (e, false)
theorem ecells_snoc (es : List (Nat × Nat)) (a b : Nat) : ecells (fresh (es ++ [(a, b)])) = ecells (fresh es) ++ [.int .i64 a, .int .i64 b, .bool false] := by
  simp [ecells, fresh]
theorem edge_info : (Try.prog.info? 57).map (fun i => (i.zero, i.size, i.bytes)) = some (some (.agg #[.int .i64 0, .int .i64 0, .bool false]), 3, 24) := by kernel_rfl
/-- two rows that do not share their block -/
def Apart (v u : Value) : Prop := ∀ b, v.ownBlock = some b → u.ownBlock ≠ some b
theorem _root_.Go.Proofs.Ytlnbkljajocfoaa.TGraph.Turned.row {g m base : Nat} {v v' u : Value} {w w' : World} {e : TypeId} {size n : Nat} {xs : List Value} (h : Turned g m v v' w w') (hr : w.ownsRow base e size u n xs) (hg : g < base) (hm : m < base) (hd : Apart v u) :
    w'.ownsRow base e size u n xs ∧ Apart v' u := by
  have hb := ownsRow_block hr
  refine ⟨ownsRow_keep hr fun k hk => h.block k (hb k hk).2 (by have := (hb k hk).1; omega) (by have := (hb k hk).1; omega) (fun e => hd k e hk), ?_⟩
  intro b hv hu
  rcases h.where_ with e | ⟨c, e, hc⟩
  · exact hd b (e ▸ hv) hu
  · have h1 := (hb b hu).2
    rw [e] at hv
    have := Option.some.inj hv
    omega
theorem _root_.Go.Proofs.Ytlnbkljajocfoaa.TGraph.Gr.below {g m base : Nat} {ls : List Str} {v : Value} {w w' : World} (h : Gr g m base ls v w) (hb : Below w.heap.size w w') : Gr g m base ls v w' := by
  obtain ⟨hc, hown, ⟨D, hmap, hnum⟩, hnd, hlt, hroom⟩ := h
  refine ⟨(hb.block g (lt_of_block hc)).trans hc, ownsRow_keep hown fun k hk => hb.block k (ownsRow_block hown k hk).2, ⟨D, hmap.kept (row := none) ⟨hb.os, hb.tape, hb.output, hb.size, fun k hk _ => hb.block k hk⟩ (by simp), hnum⟩, hnd, hlt, Nat.le_trans hroom hb.size⟩
theorem _root_.Go.Proofs.Ytlnbkljajocfoaa.TGraph.Gr.grown {g m base : Nat} {ls : List Str} {v u : Value} {w w' : World} (h : Gr g m base ls v w) (hg : w.grownBy w' u.ownBlock) (hb : ∀ k, u.ownBlock = some k → base ≤ k) (hap : Apart v u) : Gr g m base ls v w' := by
  obtain ⟨hc, hown, ⟨D, hmap, hnum⟩, hnd, hlt, hroom⟩ := h
  refine ⟨(hg.block g (lt_of_block hc) (fun e => by have := hb g e.symm; omega)).trans hc, ownsRow_keep hown fun k hk => hg.block k (ownsRow_block hown k hk).2 (fun e => hap k hk e.symm), ⟨D, hmap.kept hg (fun e => by have := hb m e.symm; omega), hnum⟩, hnd, hlt, Nat.le_trans hroom hg.size⟩
theorem Gr.start (w : World) (W : World) (e : W = (w.alloc (.map #[] 0)).alloc (.cells #[.slice none 0 0, .map (some w.heap.size)] 48)) :
    Gr (w.heap.size + 1) w.heap.size (w.heap.size + 2) [] (.slice none 0 0) W ∧ Below w.heap.size w W := by
  subst e
  have h1 := heap_alloc_new (w.alloc (.map #[] 0)) (.cells #[.slice none 0 0, .map (some w.heap.size)] 48)
  rw [show (w.alloc (.map #[] 0)).heap.size = w.heap.size + 1 from by simp] at h1
  refine ⟨⟨h1, ⟨by simp [cellsOf], .inl ⟨rfl, rfl⟩⟩, ⟨.map [], (World.ownsMap_made w _ _ _).alloc _, Numb.nil⟩, List.nodup_nil, ⟨by omega, by omega⟩, by simp⟩, ((Below.refl _ _).alloc (Nat.le_refl _) _).alloc (by simp) _⟩

/-- what a call of read leaves -/
def RPost (w : World) (ps : List (Str × Str)) (e : Ending) (w' : World) : Prop :=
  ∃ vn ed, e = .returned (.tuple #[.pointer (some ⟨w.heap.size + 1, 0, none⟩), ed]) ∧ Gr (w.heap.size + 1) w.heap.size (w.heap.size + 2) (rd ps).1 vn w' ∧
    w'.ownsRow (w.heap.size + 2) 57 3 ed (rd ps).2.length (ecells (fresh (rd ps).2)) ∧ Apart vn ed ∧ Below w.heap.size w w'

set_option maxHeartbeats 4000000 in
set_option maxRecDepth 100000 in
theorem read_any (v0 : Value) (ps : List (Str × Str)) (w : World) (hv : Prs w v0 ps) (hn : ps.length ≤ 16777216) (hs : ∀ p ∈ ps, p.1.length ≤ 1099511627776 ∧ p.2.length ≤ 1099511627776) :
    Calls Try.prog 23 #[v0] w (RPost w ps) := by
  obtain ⟨a0, cc, rfl, ⟨hlc, hcm⟩, hcell⟩ := hv
  have hcm' : cc ≤ 9223372036854775807 := hcm
  obtain ⟨i0, hi, hz0, hz1, hz2⟩ := info_parts edge_info
  have hmm := @run_makeMap Try.prog
  go_enter Try.func23, Try.ntmps23
  go_wp2
  go_loopw [5, 15] (fun ed i wr => ∃ (k : Nat) (vn : Value), k ≤ ps.length ∧ i = .int .i64 k ∧ Gr (w.heap.size + 1) w.heap.size (w.heap.size + 2) (rd (ps.take k)).1 vn wr ∧
      wr.ownsRow (w.heap.size + 2) 57 3 ed (rd (ps.take k)).2.length (ecells (fresh (rd (ps.take k)).2)) ∧ Apart vn ed ∧ Below w.heap.size w wr) (fun _ i _ => ps.length - (intOf i).toNat)
  case atStart => exact ⟨0, _, Nat.zero_le _, rfl, (Gr.start w _ rfl).1, ⟨by simp [rd, fresh, ecells], .inl ⟨rfl, rfl⟩⟩, fun b hb => by simp [Value.ownBlock] at hb, (Gr.start w _ rfl).2⟩
  case round =>
    obtain ⟨k, vn, hk, rfl, hgr, hed, hap, hb⟩ := hrel
    by_cases hlt : k < ps.length
    · obtain ⟨p, hp⟩ : ∃ p, ps[k]? = some p := ⟨ps[k], List.getElem?_eq_getElem hlt⟩
      have hrd := Lib.hid (rd_take ps k p hp)
      obtain ⟨b0, off, rfl, hc⟩ := hcell (by intro e; rw [e] at hlt; simp at hlt)
      have q0 := (hc k p hp).1
      have q1 := (hc k p hp).2
      rw [Nat.mul_comm] at q0 q1
      have c0 := (hb.cell (World.block_lt_of_cell? w _ q0)).trans q0
      have c1 := (hb.cell (World.block_lt_of_cell? w _ q1)).trans q1
      have hps := hs p (List.mem_of_getElem? hp)
      have hlen := rd_len (ps.take k)
      have hlt2 : (ps.take k).length = k := by simp; omega
      rw [hlt2] at hlen
      generalize rd (ps.take k) = st at *
      obtain ⟨ls, es⟩ := st
      obtain ⟨x, y⟩ := p
      simp only at hgr hed hlen hps c0 c1
      clear hc hcell q0 q1 hlt2 hs
      have hba := (Below.refl wr.heap.size wr).alloc (Nat.le_refl _) (.cells #[.string ⟨x.toArray⟩, .string ⟨y.toArray⟩] 27)
      have hnew := heap_alloc_new wr (.cells #[.string ⟨x.toArray⟩, .string ⟨y.toArray⟩] 27)
      have hgr2 := hgr.below hba
      have hed2 := ownsRow_keep hed fun j hj => hba.block j (ownsRow_block hed j hj).2
      have hb2 := hb.trans (hba.mono hb.size)
      have hPv : vn.ownBlock ≠ some wr.heap.size := fun e => by have := (ownsRow_block hgr.names _ e).2; omega
      have hPu : u5.ownBlock ≠ some wr.heap.size := fun e => by have := (ownsRow_block hed _ e).2; omega
      have hPm := hgr.room
      have x0 := row_cell hnew 0
      have x1 := row_cell hnew 1
      have lP := lt_of_block hnew
      have N1 := Lib.hid fun W h => number_any (w.heap.size + 1) w.heap.size (w.heap.size + 2) ls vn x W h hps.1 (by omega)
      have hal := addNew_length ls x
      have N2 := Lib.hid fun v1 W h => number_any (w.heap.size + 1) w.heap.size (w.heap.size + 2) (addNew ls x) v1 y W h hps.2 (by omega)
      have hrd2 : Hid (rd (ps.take (k + 1)) = (addNew (addNew ls x) y, if (addNew ls x).idxOf x = (addNew (addNew ls x) y).idxOf y then es else es ++ [((addNew ls x).idxOf x, (addNew (addNew ls x) y).idxOf y)])) := hrd
      have hi1 : (addNew ls x).idxOf x < 1073741824 := by
        have := List.idxOf_lt_length_of_mem (mem_addNew ls x); omega
      have hi2 : (addNew (addNew ls x) y).idxOf y < 1073741824 := by
        have := List.idxOf_lt_length_of_mem (mem_addNew (addNew ls x) y); have := addNew_length (addNew ls x) y; omega
      generalize (addNew ls x).idxOf x = ia at *
      generalize (addNew (addNew ls x) y).idxOf y = ib at *
      clear hrd
      generalize (⟨x.toArray⟩ : ByteArray) = X at *
      generalize (⟨y.toArray⟩ : ByteArray) = Y at *
      generalize hPe : wr.heap.size = P at *
      by_cases hab : ia = ib
      · have hq : ((ia : Int) != (ib : Int)) = false := by simp [hab]
        rw [if_pos hab] at hrd2
        clear hab
        go_wp2_with fail
        generalize wr.alloc (.cells #[.string X, .string Y] 27) = w2 at *
        go_region_held3 (fun w' => w'.cell? ⟨P, 0, none⟩ = some (.string X) ∧ w'.cell? ⟨P, 1, none⟩ = some (.string Y)) (go_keep)
          (first
            | (go_at_call 36
               (with_reducible refine (N1.out _ (by first | exact hgr2 | exact hgr2.below (Below.refl _ _).drew)).mono ?_)
               rintro e w3 ⟨rfl, v1, hgr3, ht3⟩
               have y0 : w3.cell? ⟨P, 0, none⟩ = some (.string X) := (World.cell?_of_block (ht3.block P lP (by omega) (by omega) hPv)).trans x0
               have y1 : w3.cell? ⟨P, 1, none⟩ = some (.string Y) := (World.cell?_of_block (ht3.block P lP (by omega) (by omega) hPv)).trans x1
               have hr3 := ht3.row hed2 (by omega) (by omega) hap
               have lP3 := World.block_lt_of_cell? w3 _ y0)
            | (go_at_call 36
               (with_reducible refine (N2.out _ _ hgr3).mono ?_)
               rintro e w4 ⟨rfl, v2, hgr4, ht4⟩
               have hv1P : v1.ownBlock ≠ some P := by
                 rcases ht3.where_ with e | ⟨c, e, hc⟩
                 · rw [e]; exact hPv
                 · rw [e]; intro h; have := Option.some.inj h; simp at hc; omega
               have z0 : w4.cell? ⟨P, 0, none⟩ = some (.string X) := (World.cell?_of_block (ht4.block P lP3 (by omega) (by omega) hv1P)).trans y0
               have z1 : w4.cell? ⟨P, 1, none⟩ = some (.string Y) := (World.cell?_of_block (ht4.block P lP3 (by omega) (by omega) hv1P)).trans y1
               have hr4 := ht4.row hr3.1 (by omega) (by omega) hr3.2
               have hb4 : Below w.heap.size w w4 := by first | exact (hb2.trans ht3.below).trans ht4.below | exact (hb2.drew.trans ht3.below).trans ht4.below))
        all_goals go_wp2
        all_goals go_roundw
        all_goals first
          | exact ⟨k + 1, v2, by omega, by go_num, by rw [hrd2.out]; exact hgr4, by rw [hrd2.out]; exact hr4.1, hr4.2, hb4⟩
          | (simp [intOf]
             omega)
      · have hq : ((ia : Int) != (ib : Int)) = true := by simp; omega
        rw [if_neg hab] at hrd2
        have hec := Lib.hid (ecells_snoc es ia ib)
        clear hab
        go_wp2_with fail
        generalize wr.alloc (.cells #[.string X, .string Y] 27) = w2 at *
        go_region_held3 (fun w' => w'.cell? ⟨P, 0, none⟩ = some (.string X) ∧ w'.cell? ⟨P, 1, none⟩ = some (.string Y)) (go_keep)
          (first
            | (go_at_call 36
               (with_reducible refine (N1.out _ (by first | exact hgr2 | exact hgr2.below (Below.refl _ _).drew)).mono ?_)
               rintro e w3 ⟨rfl, v1, hgr3, ht3⟩
               have y0 : w3.cell? ⟨P, 0, none⟩ = some (.string X) := (World.cell?_of_block (ht3.block P lP (by omega) (by omega) hPv)).trans x0
               have y1 : w3.cell? ⟨P, 1, none⟩ = some (.string Y) := (World.cell?_of_block (ht3.block P lP (by omega) (by omega) hPv)).trans x1
               have hr3 := ht3.row hed2 (by omega) (by omega) hap
               have lP3 := World.block_lt_of_cell? w3 _ y0)
            | (go_at_call 36
               (with_reducible refine (N2.out _ _ hgr3).mono ?_)
               rintro e w4 ⟨rfl, v2, hgr4, ht4⟩
               have hv1P : v1.ownBlock ≠ some P := by
                 rcases ht3.where_ with e | ⟨c, e, hc⟩
                 · rw [e]; exact hPv
                 · rw [e]; intro h; have := Option.some.inj h; simp at hc; omega
               have z0 : w4.cell? ⟨P, 0, none⟩ = some (.string X) := (World.cell?_of_block (ht4.block P lP3 (by omega) (by omega) hv1P)).trans y0
               have z1 : w4.cell? ⟨P, 1, none⟩ = some (.string Y) := (World.cell?_of_block (ht4.block P lP3 (by omega) (by omega) hv1P)).trans y1
               have hr4 := ht4.row hr3.1 (by omega) (by omega) hr3.2
               have hb4 : Below w.heap.size w w4 := by first | exact (hb2.trans ht3.below).trans ht4.below | exact (hb2.drew.trans ht3.below).trans ht4.below))
        all_goals
          go_wp2_with (at_builtin
                       refine wpList_append_lies _ rfl _ _ _ rfl (w.heap.size + 2) 57 i0 _ 3 24 Try.underlying43 hi hz0 hz1 hz2 rfl (by omega) _ es.length (ecells (fresh es)) rfl (hr4.1.alloc _) ⟨w4.heap.size, 0, none⟩ 1 1 [.int .i64 ia, .int .i64 ib, .bool false] rfl rfl (World.news_of_block (cs := #[.int .i64 ia, .int .i64 ib, .bool false]) (t := 57) (fr := (0, 0)) (heap_alloc_new w4 _)) (by simp [Value.oneCell']) (by omega) (by unfold maxLen; omega) (by omega) (by have := hgr4.room; simp; omega) (w4.heap.size + 1) (by simp) ?_
                       intro gg cap w5 hown5 hgrow hat hlt5)
        all_goals
          have hgr5 := (hgr4.below ((Below.refl w4.heap.size w4).alloc (Nat.le_refl _) (.cells #[.int .i64 ia, .int .i64 ib, .bool false] 57))).grown hgrow (fun j hj => (ownsRow_block hr4.1 j hj).1) hr4.2
          refine ⟨⟨k + 1, v2, by omega, by go_num, by rw [hrd2.out]; exact hgr5, ?_, ?_, ?_⟩, by simp [intOf]; omega⟩
          · rw [hrd2.out]
            show w5.ownsRow _ _ _ _ (es ++ [(ia, ib)]).length (ecells (fresh (es ++ [(ia, ib)])))
            rw [hec.out, show (es ++ [(ia, ib)]).length = es.length + 1 from by simp]
            exact hown5
          · intro b hv hu
            have hb' : gg = b := by simpa [Value.ownBlock] using hu
            subst hb'
            rcases hat with h | h
            · exact hr4.2 _ hv h
            · have := (ownsRow_block hgr4.names _ hv).2
              omega
          · exact (hb4.alloc hb4.size _).grown hgrow (by have := hb4.size; simp; omega) (fun j hj => by have := (ownsRow_block hr4.1 j hj).1; omega)
    · obtain rfl : k = ps.length := by omega
      rw [List.take_length] at hgr hed
      go_wp2
      go_ret2
      exact ⟨vn, _, rfl, hgr, hed, hap, hb⟩
end Go.Proofs.Ytlnbkljajocfoaa.TRead
