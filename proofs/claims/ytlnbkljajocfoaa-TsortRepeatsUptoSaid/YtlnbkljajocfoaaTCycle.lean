/- (*sorter).cycle returns the cycle that the plain function says; the map and new blocks alone are written. -/
import Derived.Test.YtlnbkljajocfoaaTClear
import Derived.Maps.Range
import Derived.Deep.RegionLaw
import Derived.Deep.AppendLies
namespace Go.Proofs.Ytlnbkljajocfoaa.TCycle
open Go Go.RowKit Go.Maps Go.WideMaps Topo TWords TGraph TSorter TBefore TSlices TReverse TClone TClear

theorem lawI : Keyed Try.prog 3 := int_keyed Try.underlying3
/-- what the map says of every number -/
def NumbI (D : DataW Unit) (p : List Nat) : Prop :=
  IsMap D ∧ ∀ x : Nat, Maps.has D (.int .i64 (x : Nat)) = decide (x ∈ p) ∧ (x ∈ p → D.atKey (.int .i64 (x : Nat)) (.lit (.int .i64 0)) = .lit (.int .i64 (p.idxOf x : Nat)))
theorem NumbI.nil : NumbI (.map []) [] := ⟨isMap_empty, fun x => ⟨rfl, fun h => by cases h⟩⟩
theorem NumbI.add {D : DataW Unit} {p : List Nat} (h : NumbI D p) (x : Nat) (hx : x ∉ p) (hk : WideAt.IsKeyLit (.int .i64 (x : Nat))) : NumbI (D.put (.int .i64 (x : Nat)) (.lit (.int .i64 (p.length : Nat)))) (p ++ [x]) := by
  refine ⟨h.1.put _ _, fun y => ?_⟩
  by_cases e : y = x
  · subst e
    refine ⟨?_, fun _ => ?_⟩
    · rw [has_put_same h.1 hk]; simp
    · rw [atKey_put_same h.1 hk, List.idxOf_append, if_neg hx]; simp
  · have hne : (Lit.int .i64 (y : Nat)) ≠ .int .i64 (x : Nat) := by intro h; injection h with _ h; omega
    refine ⟨?_, fun hy => ?_⟩
    · rw [has_put_other hne, (h.2 y).1]; simp [e]
    · have hy' : y ∈ p := by simpa [e] using hy
      rw [atKey_put_other hne, (h.2 y).2 hy', List.idxOf_append, if_pos hy']
theorem nodup_le : ∀ {n : Nat} {p : List Nat}, p.Nodup → (∀ z ∈ p, z < n) → p.length ≤ n
  | 0, p, _, hl => by
    cases p with
    | nil => exact Nat.le_refl _
    | cons z p => exact absurd (hl z (by simp)) (by omega)
  | n + 1, p, h, hl => by
    have h1 := nodup_le (n := n) (p := p.erase n) (h.erase n) fun z hz => by
      have hz' := (h.mem_erase_iff).1 hz
      have := hl z hz'.2
      have := hz'.1
      omega
    rw [List.length_erase] at h1
    split at h1 <;> omega
theorem minOf_mem : ∀ (q : List Nat), q ≠ [] → minOf q ∈ q
  | [], h => absurd rfl h
  | x :: l, _ => by
    have key : ∀ (l : List Nat) (x : Nat), l.foldl min x = x ∨ l.foldl min x ∈ l := by
      intro l
      induction l with
      | nil => intro x; exact .inl rfl
      | cons y l ih =>
        intro x
        rw [List.foldl_cons]
        rcases ih (min x y) with h | h
        · rw [h]
          rcases Nat.le_total x y with hxy | hxy
          · left; exact Nat.min_eq_left hxy
          · right; rw [Nat.min_eq_right hxy]; simp
        · right; simp [h]
    rcases key l x with h | h
    · show l.foldl min x ∈ _; rw [h]; simp
    · show l.foldl min x ∈ _; simp [h]
def sliceLen : Value → Nat
  | .slice _ n _ => n
  | _ => 0

theorem add_lit (g j k : Nat) : (⟨g, j, none⟩ : Addr).add k = ⟨g, j + k, none⟩ := by unfold Addr.add; split <;> simp_all
theorem size_int (W : World) : (sizeOf (Try.prog.elem 51)).run Try.prog W = .ok 1 W := by kernel_rfl
theorem elem_int : Try.prog.underlying 51 = some (.slice (Try.prog.elem 51)) := by kernel_rfl
theorem sl_low (gp off len cap l : Nat) (h : l < len) (hc : len ≤ cap) (W : World) :
    (Instr.slice 51 (.slice (some ⟨gp, off, none⟩) len cap) (some (.int .i64 (l : Nat))) none none).run Try.prog W = .ok (.slice (some ⟨gp, off + l, none⟩) (len - l) (cap - l)) W := by
  rw [run_slice_l W 51 _ len cap elem_int .i64 _ (by omega) (by omega), size_int]
  simp only [Result.andThen, sliced, Int.toNat_natCast]
  rw [if_neg (by omega)]
  simp [add_lit]
theorem sl_high (gp off len cap h : Nat) (hh : h ≤ cap) (W : World) :
    (Instr.slice 51 (.slice (some ⟨gp, off, none⟩) len cap) none (some (.int .i64 (h : Nat))) none).run Try.prog W = .ok (.slice (some ⟨gp, off, none⟩) h cap) W := by
  rw [run_slice_h W 51 _ len cap elem_int .i64 _ (by omega) (by omega), size_int]
  simp only [Result.andThen, sliced, Int.toNat_natCast]
  split <;> simp [add_lit]
theorem row_f {w : World} {gp : Nat} {cur : Array Value} {p : List Nat} (hh : w.heap[gp]? = some (.cells cur 3 (0, 0))) (htk : cur.toList.take (p.length * 1) = icells p) (j : Nat) (hj : j < p.length) :
    w.cell? ⟨gp, j, none⟩ = some (.int .i64 (p.getD j 0 : Nat)) ∧ w.frozen? ⟨gp, j, none⟩ = false := by
  refine ⟨?_, by simp [World.frozen?, hh]⟩
  rw [cell_of_row w gp j cur _ (0, 0) hh]
  have h1 : (icells p)[j]? = some (.int .i64 (p.getD j 0 : Nat)) := by
    simp only [icells, List.getElem?_map]
    rw [List.getElem?_eq_getElem hj, List.getD_eq_getElem?_getD, List.getElem?_eq_getElem hj]
    rfl
  rw [← htk, List.getElem?_take] at h1
  split at h1
  · simpa using h1
  · cases h1
theorem min_q (b off c : Nat) (q : List Nat) (w : World) (h : RowAt w b off q) (hq : q ≠ []) (hc : q.length ≤ c ∧ c ≤ maxLen) :
    Calls Try.prog 40 #[.slice (some ⟨b, off, none⟩) q.length c] w fun e w' => e = .returned (.int .i64 (minOf q : Nat)) ∧ w = w' := by
  cases q with
  | nil => exact absurd rfl hq
  | cons x l => exact min_any b off c x l w h hc
theorem ownsRow_mono {w : World} {base base' : Nat} {e : TypeId} {size : Nat} {v : Value} {n : Nat} {xs : List Value} (h : w.ownsRow base e size v n xs) (hb : base' ≤ base) : w.ownsRow base' e size v n xs := by
  refine ⟨h.1, ?_⟩
  rcases h.2 with hn | ⟨g, cap, cur, hv, hg, rest⟩
  · exact .inl hn
  · exact .inr ⟨g, cap, cur, hv, Nat.le_trans hb hg, rest⟩
/-- append onto a row of the call's own, whose new length is not 0, as one step of a region that draws -/
theorem step_append {P : Program} (w : World) {ops : Array Oper} {o : Oper} {a : Act} {K : Act → World → Prop} {Q : Exit → Act → World → Prop} {F : Prop} (hgd : o.guard = none) (s x : Operand) (t : TypeId)
    (ho : o.op = .call { callee := .builtin .append, args := #[s, x], argTypes := #[t, t] })
    (base : Nat) (e : TypeId) (i : TypeInfo) (z : Value) (bytes : Nat) (ht : P.underlying t = some (.slice e)) (hi : P.info? e = some i) (hz : i.zero = some z)
    (hsize : i.size = 1) (hby : i.bytes = bytes) (hzs : z.cells.size = 1)
    (v : Value) (n : Nat) (xs : List Value) (hs : a.eval s = v) (hown : w.ownsRow base e 1 v n xs)
    (ad : Addr) (m c : Nat) (news : List Value) (hx : a.eval x = .slice (some ad) m c) (hl : news.length = m * 1) (hnews : ∀ (j : Nat) u, news[j]? = some u → w.cell? (ad.add j) = some u) (h1 : ∀ u ∈ news, u.oneCell' = true)
    (hm : 0 < n + m) (h63 : n + m ≤ maxLen) (hbytes : (n + m) * bytes ≤ 140737488355328) (hbase : base ≤ w.heap.size)
    (h : ∀ g cap w', w'.ownsRow base e 1 (.slice (some ⟨g, 0, none⟩) (n + m) cap) (n + m) (xs ++ news) → w.grownBy w' v.ownBlock → K (a.put o.dst (.slice (some ⟨g, 0, none⟩) (n + m) cap)) w') :
    if Region.wanted o (yielded ops a.tmps) = true then Oper.wp P o a w K Q else F := by
  have hw : Region.wanted o (yielded ops a.tmps) = true := by simp [Region.wanted, hgd]
  rw [if_pos hw]
  obtain ⟨v', w', hr, h2, h3, -⟩ := run_append_own_at (P := P) w base t o.type e i z 1 bytes ht hi hz hsize hby hzs (by decide) v n xs hown ad m c news hl hnews h1 h63 hbytes hbase
  obtain ⟨g, cap, rfl, -⟩ := h2.form hm
  unfold Oper.wp execOp
  simp only [ho, resolve, invoke, builtin, Sem.run_bind, Sem.run_pure, Result.andThen_ok, List.map_toArray, List.map_cons, List.map_nil, hs, hx, hr]
  exact h g cap w' h2 h3
/-- the sorter's map is owned -/
def MapOk (L : Lay) (w : World) : Prop := ∃ (D : DataW Unit) (m : Nat), w.ownsMap Try.prog 3 (plainElem Try.prog 3) L.mb m D
theorem zeroI (w : World) : (zeroValue 3).run Try.prog w = .ok (.int .i64 0) w := by kernel_rfl

set_option maxHeartbeats 4000000 in
set_option maxRecDepth 100000 in
theorem cycle_any (L : Lay) (E : Edges) (n : Nat) (gone done : Nat → Bool) (x : Nat) (w : World) (h : Sr L E n gone done w) (hx : x < n) (hm : MapOk L w) (hn : n ≤ 1073741824) :
    Calls Try.prog 25 #[.pointer (some ⟨L.sb, 0, none⟩), .int .i64 x] w
      fun e w' => ∃ g cap, e = .returned (.slice (some ⟨g, 0, none⟩) (cyc E n gone x).length cap) ∧ w'.ownsRow w.heap.size 3 1 (.slice (some ⟨g, 0, none⟩) (cyc E n gone x).length cap) (cyc E n gone x).length (icells (cyc E n gone x)) ∧
        w.grownBy w' (some L.mb) ∧ MapOk L w' ∧ cyc E n gone x ≠ [] := by
  obtain ⟨i0, hi, hz0, hz1, hz2⟩ := info_parts int_info
  obtain ⟨D0, m0, hm0⟩ := hm
  have hc6 := h.c6
  have hmb := h.below.2.2.2
  have hroom := h.room
  obtain ⟨W, hW⟩ : ∃ W, W = way E gone (n + 1) [] x := ⟨_, rfl⟩
  have hcyc : cyc E n gone x = turned W := by rw [hW]; rfl
  rw [hcyc]
  have HS := Lib.hid h
  clear h hcyc
  obtain ⟨w0, hrun, hmap0, hg0⟩ := run_clear hm0 Try.underlying53 0
  go_enter Try.func25, Try.ntmps25
  go_wp2
  go_loopw [1, 5] (fun yv path wr => ∃ (p : List Nat) (y f : Nat) (D : DataW Unit), y < n ∧ yv = .int .i64 y ∧ f + p.length = n + 1 ∧ way E gone f p y = W ∧ p.Nodup ∧ (∀ z ∈ p, z < n) ∧
      wr.ownsRow w.heap.size 3 1 path p.length (icells p) ∧ wr.ownsMap Try.prog 3 (plainElem Try.prog 3) L.mb p.length D ∧ NumbI D p ∧ w.grownBy wr (some L.mb)) (fun _ path _ => n + 1 - sliceLen path)
  case atStart => exact ⟨[], x, n + 1, .map [], hx, rfl, rfl, hW.symm, List.nodup_nil, (fun z hz => by cases hz), ⟨rfl, .inl ⟨rfl, rfl⟩⟩, hmap0, NumbI.nil, hg0⟩
  case round =>
    obtain ⟨p, y, f, D, hy, rfl, hf, hway, hnd, hpl, hrow, hmap, hnum, hg⟩ := hrel
    have hS1 := HS.out.other hg.size (fun k hk hne => hg.block k hk (fun e => hne (Option.some.inj e)))
    have hc61 := hS1.c6
    have hple := nodup_le hnd hpl
    have hkey : keyOf Try.prog 3 (.int .i64 (y : Nat)) = some (.int .i64 (y : Nat)) := keyOf_int_mk Try.underlying3 (WalkArith.wf_i64 (by omega))
    have hhas := (hnum.2 y).1
    by_cases hin : y ∈ p
    · have hh : Maps.has D (.int .i64 (y : Nat)) = true := by rw [hhas]; simp [hin]
      have hat0 := (hnum.2 y).2 hin
      have hlt := List.idxOf_lt_length_of_mem hin
      have hpos : 0 < p.length := by omega
      have hWe : W = p.drop (p.idxOf y) := by
        rw [← hway]
        obtain ⟨f', rfl⟩ : ∃ f', f = f' + 1 := ⟨f - 1, by omega⟩
        rw [way, if_pos hin]
      rcases id hrow.2 with ⟨_, h0⟩ | ⟨gp, cp, cur, rfl, hgp1, hgh, hnc, hcm, hcs, htk⟩
      · omega
      generalize hatd : p.idxOf y = at_ at *
      obtain ⟨N, hN⟩ : ∃ N, at_ + N = p.length := ⟨p.length - at_, by omega⟩
      obtain ⟨c1, hc1⟩ : ∃ c1, at_ + c1 = cp := ⟨cp - at_, by omega⟩
      have s1 := sl_low gp 0 p.length cp at_ hlt hnc
      rw [show p.length - at_ = N from by omega, show cp - at_ = c1 from by omega, Nat.zero_add] at s1
      have hWl : W.length = N := by rw [hWe, List.length_drop]; omega
      obtain ⟨q, hq⟩ : ∃ q, q = W.reverse := ⟨_, rfl⟩
      have hql : q.length = N := by rw [hq, List.length_reverse, hWl]
      have hq0 : q ≠ [] := by intro e; rw [e] at hql; simp at hql; omega
      obtain ⟨i, hie⟩ : ∃ i, i = q.idxOf (minOf q) := ⟨_, rfl⟩
      have hmin := minOf_mem q hq0
      have hiN : i < N := by rw [hie, ← hql]; exact List.idxOf_lt_length_of_mem hmin
      have htu : turned W = q.drop i ++ q.take i := by unfold turned; rw [← hq, ← hie]
      have hrowF : RowF wr gp at_ N (fun k => W.getD k 0) := fun k hk => by
        have := row_f hgh htk (at_ + k) (by omega)
        show _ = some (Value.int .i64 ((W.getD k 0 : Nat) : Int)) ∧ _
        rw [hWe, List.getD_eq_getElem?_getD, List.getElem?_drop, ← List.getD_eq_getElem?_getD]
        exact this
      have s2 := sl_low gp at_ N c1 i hiN (by omega)
      have s3 := sl_high gp at_ N c1 i (by omega)
      obtain ⟨m1, hm1⟩ : ∃ m1, i + m1 = N := ⟨N - i, by omega⟩
      obtain ⟨c2, hc2⟩ : ∃ c2, i + c2 = c1 := ⟨c1 - i, by omega⟩
      rw [show N - i = m1 from by omega, show c1 - i = c2 from by omega] at s2
      have hqd : (q.drop i).length = m1 := by rw [List.length_drop, hql]; omega
      have hqt : (q.take i).length = i := by rw [List.length_take, hql]; omega
      have HRv := Lib.hid (reverse_any gp at_ N c1 _ wr hrowF (by omega) ⟨by omega, by omega⟩)
      have hpn := hple
      have hne : turned W ≠ [] := by
        rw [htu]; intro e
        have := congrArg List.length e
        rw [List.length_append, hqd, hqt] at this
        simp at this; omega
      have HNe := Lib.hid hne
      have HTu := Lib.hid htu
      have HRow := Lib.hid hrow
      have HL := Lib.hid hgh
      have hqr : ∀ j z, q[j]? = some z → j < N ∧ z = W.getD (N - 1 - j) 0 := by
        intro j z hz
        have hj : j < N := by rw [← hql]; exact (List.getElem?_eq_some_iff.1 hz).1
        refine ⟨hj, ?_⟩
        rw [hq, List.getElem?_reverse (by omega), hWl] at hz
        rw [List.getD_eq_getElem?_getD, hz]; rfl
      have HQ := Lib.hid hqr
      have hmq := fun W' h => min_q gp at_ c1 q W' h hq0 ⟨by omega, by omega⟩
      have hiq := fun W' h => index_any gp at_ c1 q (minOf q) W' h hmin ⟨by omega, by omega⟩
      rw [hql] at hmq hiq
      rw [← hie] at hiq
      have HM := Lib.hid hmq
      have HI := Lib.hid hiq
      generalize minOf q = mn at *
      have HGp := Lib.hid hgp1
      have hgl : gp < wr.heap.size := lt_of_block hgh
      have hcl := fun W' h hb => clone_any gp (at_ + i) c2 (q.drop i) W' h hb (by omega) (by omega) ⟨by omega, by omega⟩
      rw [hqd] at hcl
      have HCl := Lib.hid hcl
      have hti : (icells (q.take i)).length = i * 1 := by rw [icells_length, hqt]; omega
      have HTi := Lib.hid hti
      have HHie := Lib.hid hie
      clear hcl hti
      clear hie hq hW
      clear hne htu hrow hgh htk hway hqr hmq hiq hWe hmin hq0 hcs hWl hhas
      go_wp2_with (first
        | (at_lookup
           refine wpList_lookup_own_ok_int _ rfl _ _ 53 rfl 3 3 .i64 lawI Try.underlying53 Try.underlying3 (zeroI _) L.mb p.length D rfl hmap _ _ rfl hkey ?_
           intro c hatc hwc
           rw [hat0] at hatc
           have hce : (at_ : Int) = c := by injection hatc with hatc; injection hatc
           subst hce
           rw [hh])
        | (go_at_call 38
           (with_reducible refine HRv.out.mono ?_)
           rintro e w1 ⟨rfl, hR1, hO1⟩
           have hRA : RowAt w1 gp at_ q := fun j z hz => by
             obtain ⟨h1, h2⟩ := HQ.out j z hz
             rw [h2]
             exact hR1 j h1
           have HRA := Lib.hid hRA
           have HO := Lib.hid hO1
           clear hR1 hO1 hRA)
        | (go_at_call 40
           (with_reducible refine (HM.out _ HRA.out).mono ?_)
           rintro e w2 ⟨rfl, rfl⟩)
        | (go_at_call 39
           (with_reducible refine (HI.out _ HRA.out).mono ?_)
           rintro e w2 ⟨rfl, rfl⟩))
      have hRd : RowAt w1 gp (at_ + i) (q.drop i) := fun j z hz => by
        rw [List.getElem?_drop] at hz
        rw [Nat.add_assoc]
        exact HRA.out _ _ hz
      have hgl1 : gp < w1.heap.size := by rw [HO.out.2.1]; exact hgl
      have hRdD : RowAt w1.drew gp (at_ + i) (q.drop i) := hRd
      have hglD : gp < w1.drew.heap.size := hgl1
      go_region_law
        (first
          | ((refine step_append _ (by rfl) _ _ _ (by rfl) w1.heap.size 3 i0 _ 8 Try.underlying51 hi hz0 hz1 hz2 rfl _ m1 (icells (q.drop i)) (by rfl) hown4 ⟨gp, at_, none⟩ i c1 (icells (q.take i)) (by rfl) HTi.out hnw (icells_one _) (by omega) (by unfold maxLen; omega) (by omega) hb4.size ?_; intro gg cap5 w5 hown5 hgrow5))
          | (go_simp
             go_at_call 41
             (with_reducible refine (HCl.out _ (by first | exact hRdD | exact hRd) (by first | exact hglD | exact hgl1)).mono ?_)
             rintro e w4 ⟨g4, cap4, rfl, hown4, hb4⟩
             have hnw : ∀ (j : Nat) u, (icells (q.take i))[j]? = some u → w4.cell? ((⟨gp, at_, none⟩ : Addr).add j) = some u := RowAt.news fun j z hz => by
               have hz' : q[j]? = some z := by
                 rw [List.getElem?_take] at hz
                 split at hz
                 · exact hz
                 · cases hz
               obtain ⟨k1, k2⟩ := HRA.out j z hz'
               exact ⟨(World.cell?_of_block (hb4.block gp hgl1)).trans k1, (World.frozen?_of_block (hb4.block gp hgl1)).trans k2⟩))
      all_goals go_wp2
      all_goals go_ret
      all_goals
        have hlen : (turned W).length = m1 + i := by rw [HTu.out, List.length_append, hqd, hqt]
        have hd : w1.grownBy w1.drew none := ⟨rfl, rfl, rfl, Nat.le_refl _, fun _ _ _ => rfl⟩
        have ho4 := ownsRow_block hown4
        have hgO : w.grownBy w1 (some L.mb) := hg.andThen (row' := some gp) ⟨HO.out.2.2.1, HO.out.2.2.2.1, HO.out.2.2.2.2, Nat.le_of_eq HO.out.2.1.symm, fun k _ hk => HO.out.1 k (fun e => hk (by rw [e]))⟩ (fun j hj => .inl (by have := Option.some.inj hj; have := HGp.out; omega))
        have hg4 : w.grownBy w4 (some L.mb) := hgO.andThen (row' := none) ⟨hb4.os, hb4.tape, hb4.output, hb4.size, fun k hk _ => hb4.block k hk⟩ (fun j hj => by cases hj)
        have hs1 : w.heap.size ≤ w1.heap.size := hgO.size
        have ho4' : ∀ k, (Value.slice (some ⟨g4, 0, none⟩) m1 cap4).ownBlock = some k → w1.heap.size ≤ k := fun k hk => (ho4 k hk).1
        have hg5 : w.grownBy w5 (some L.mb) := hg4.andThen hgrow5 (fun j hj => .inl (by have := ho4' j hj; omega))
        refine ⟨gg, cap5, by rw [hlen]; rfl, ?_, hg5, ?_, HNe.out⟩
        · rw [hlen, HTu.out, icells_append]
          exact ownsRow_mono hown5 hs1
        · obtain ⟨es, clock, hbm, r⟩ := hmap
          refine ⟨D, p.length, es, clock, ?_, r⟩
          have hsw := hg.size
          have hgp' := HGp.out
          rw [hgrow5.block L.mb (by have := hg4.size; omega) (fun e => by have := ho4' L.mb e.symm; omega), hb4.block L.mb (by show L.mb < w1.heap.size; omega), ← hbm]
          exact HO.out.1 L.mb (by omega)
    · have hh : Maps.has D (.int .i64 (y : Nat)) = false := by rw [hhas]; simp [hin]
      have hf1 : ∃ f', f = f' + 1 := ⟨f - 1, by omega⟩
      obtain ⟨f', rfl⟩ := hf1
      have hway2 : Hid (way E gone f' (p ++ [y]) (prev E gone y) = W) := by
        rw [Hid, ← hway]; rw [way, if_neg hin]
      have hnum2 := Lib.hid (hnum.add y hin (by trivial))
      have hnd2 : Hid (p ++ [y]).Nodup := by
        rw [Hid, List.nodup_append]
        refine ⟨hnd, by simp, ?_⟩
        intro a ha b hb e
        simp at hb
        exact hin (by rw [← hb, ← e]; exact ha)
      have hpl2 : Hid (∀ z ∈ p ++ [y], z < n) := by
        intro z hz
        rcases List.mem_append.1 hz with h | h
        · exact hpl z h
        · simp at h; omega
      obtain ⟨a, cp, hva, hcap⟩ : ∃ a cp, u5 = .slice a p.length cp ∧ cp ≤ maxLen := by
        rcases hrow.2 with ⟨rfl, h0⟩ | ⟨g', cap, cur, rfl, _, _, _, hcm, _⟩
        · exact ⟨none, 0, by rw [h0], Nat.zero_le _⟩
        · exact ⟨_, cap, rfl, hcm⟩
      subst hva
      have hblk := ownsRow_block hrow
      have hws := hg.size
      clear hhas hway hnd hpl
      go_wp2_with (first
        | (at_lookup
           refine wpList_lookup_own_ok_int _ rfl _ _ 53 rfl 3 3 .i64 lawI Try.underlying53 Try.underlying3 (zeroI _) L.mb p.length D rfl hmap _ _ rfl hkey ?_
           intro c hat hwc
           rw [hh])
        | (at_mapUpdate
           refine wpList_mapUpdate_own _ rfl _ _ _ 53 rfl 3 3 lawI Try.underlying53 _ L.mb p.length _ rfl hmap (by unfold maxLen; omega) _ _ _ rfl rfl hkey _ [] (plainElem_int Try.underlying3 (WalkArith.wf_i64 (by omega))) ?_
           intro w1 hmap1 hg1
           have hrow1 : w1.ownsRow w.heap.size 3 1 (.slice a p.length cp) p.length (icells p) := ownsRow_keep hrow fun k hk => hg1.block k (hblk k hk).2 (fun e => by have := Option.some.inj e; have := (hblk k hk).1; omega)
           have hs1 := hg1.size)
        | (at_builtin
           refine wpList_append_lies _ rfl _ _ _ rfl w.heap.size 3 i0 _ 1 8 Try.underlying51 hi hz0 hz1 hz2 rfl (by omega) _ p.length (icells p) rfl (hrow1.alloc _) ⟨w1.heap.size, 0, none⟩ 1 1 [.int .i64 (y : Nat)] rfl rfl (World.news_of_block (cs := #[.int .i64 (y : Nat)]) (t := 3) (fr := (0, 0)) (heap_alloc_new w1 _)) (by simp [Value.oneCell']) (by omega) (by unfold maxLen; omega) (by omega) (by simp; omega) (w1.heap.size + 1) (by simp) ?_
           intro gg cap w2 hown2 hgrow hat2 hlt2
           have hg2 : w.grownBy w2 (some L.mb) := ((hg.trans hg1).andThen (World.grownBy_alloc w1 (.cells #[.int .i64 (y : Nat)] 3) none) (fun j hj => by cases hj)).andThen hgrow (fun j hj => .inl (hblk j hj).1)
           have hS2 := HS.out.other hg2.size (fun k hk hne => hg2.block k hk (fun e => hne (Option.some.inj e)))
           have hmap2 := (hmap1.alloc (.cells #[.int .i64 (y : Nat)] 3)).kept hgrow (fun e => by have := (hblk L.mb e.symm).1; omega))
        | (go_at_call 37
           (with_reducible refine (before_any L E n gone done y _ hS2 hy).mono ?_)
           rintro e w3 ⟨rfl, rfl⟩))
      go_roundw
      case rel =>
        refine ⟨p ++ [y], prev E gone y, f', D.put (.int .i64 (y : Nat)) (.lit (.int .i64 (p.length : Nat))), prev_lt hS2 y hy, rfl, by simp; omega, hway2.out, hnd2.out, hpl2.out, ?_, ?_, hnum2.out, hg2⟩
        · rw [show (p ++ [y]).length = p.length + 1 from by simp, icells_append]
          exact hown2
        · rw [show (p ++ [y]).length = p.length + 1 from by simp]
          exact hmap2
      case measure => simp [sliceLen]; omega
end Go.Proofs.Ytlnbkljajocfoaa.TCycle
