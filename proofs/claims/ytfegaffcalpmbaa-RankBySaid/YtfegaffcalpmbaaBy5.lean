/- RankBy: the law's walk. -/
import Derived.Lib.Hide
import Derived.Sort.LoopGhostIn
import Derived.Test.YtfegaffcalpmbaaBy4
namespace Go.Proofs.Ytfegaffcalpmbaa.St
open Go.Proofs Go.Shelf Go.RowKit Go.Lib Go.Sort Go.Proofs.YtfegaffcalpmbaaW.PrintWords Go.Proofs.YtfegaffcalpmbaaW.PrintLast Go.Proofs.YtfegaffcalpmbaaW.PrintMore
theorem infoI : (Try.prog.info? 2).map (fun i => (i.zero, i.size, i.bytes)) = some (some (.int .i64 0), 1, 8) := by kernel_rfl
theorem own_form {w : World} {base : Nat} {e : TypeId} {size : Nat} {v : Value} {n : Nat} {xs : List Value} (h : w.ownsRow base e size v n xs) : ∃ a cap, v = .slice a n cap := by
  rcases h.2 with ⟨rfl, rfl⟩ | ⟨g, cap, _, rfl, _⟩
  · exact ⟨none, 0, rfl⟩
  · exact ⟨_, cap, rfl⟩
theorem own_some {w : World} {base : Nat} {e : TypeId} {size : Nat} {v : Value} {n : Nat} {xs : List Value} (h : w.ownsRow base e size v n xs) (hn : 0 < n) : ∃ g cap, v = .slice (some ⟨g, 0, none⟩) n cap ∧ base ≤ g ∧ g < w.heap.size := by
  rcases h.2 with ⟨_, rfl⟩ | ⟨g, cap, _, rfl, hb, hg, _⟩
  · omega
  · exact ⟨g, cap, rfl, hb, (Array.getElem?_eq_some_iff.1 hg).1⟩
theorem own_things {w : World} {base : Nat} {a : Option Addr} {c : Nat} {ts : List (Int × ByteArray)} (h : w.ownsRow base 38 2 (.slice a ts.length c) ts.length (thingCells ts)) : ThingRow w a ts := fun i hi => by
  obtain ⟨g, cap, e, _⟩ := own_some h (by omega)
  injection e with e1 e2 e3
  subst e1
  obtain ⟨g0, g1⟩ := thingCells_get ts i hi
  have c0 := h.cells (g := g) rfl _ _ g0
  have c1 := h.cells (g := g) rfl _ _ g1
  refine ⟨⟨g, 0, none⟩, rfl, c0, ?_⟩
  have e : (⟨((⟨g, 0, none⟩ : Addr).add (i * 2)).block, ((⟨g, 0, none⟩ : Addr).add (i * 2)).off + 1, none⟩ : Addr) = (⟨g, 0, none⟩ : Addr).add (i * 2 + 1) := by
    unfold Addr.add
    split <;> split <;> first | (simp_all; done) | (simp; omega) | omega
  rw [e]
  exact c1
theorem reads_n {k : IntKind} {w : World} {A0 : Option Addr} {n : Nat} {l0 : List Int} (hr0 : Kd.C (Kd.int k) w A0 n l0) : ∀ i : Nat, i < n → ∃ ad, A0 = some ad ∧ w.cell? (ad.add i) = some (.int k (l0.getD i 0)) := by
  intro i hi
  obtain ⟨ad, c, e, _, hK, hc0⟩ := Kd.C_get hr0 0 (i : Int) (by omega) (by omega)
  have hK' : c = [.int k (l0.getD i 0)] := by rw [Int.toNat_natCast] at hK; exact hK
  subst hK'
  have h := hc0 0 _ rfl
  rw [Int.toNat_natCast] at h
  exact ⟨ad, e, by rw [show i * (Kd.int k).sz + 0 = i by show i * 1 + 0 = i; omega] at h; exact h⟩
theorem own_keys {w : World} {base n : Nat} {a : Option Addr} {c : Nat} {L : List Int} (h : w.ownsRow base 2 1 (.slice a n c) n (L.map fun x => Value.int .i64 x)) (hL : L.length = n) (hn : n ≤ 9223372036854775807) : Kd.C (Kd.int .i64) w a n L ∧ n ≤ c := by
  constructor
  · refine Kd.C_of_reads (d := (0 : Int)) (h1 := fun _ => rfl) ?_
    refine ⟨hL, hn, fun hp => ?_⟩
    obtain ⟨g, cap, e, _⟩ := own_some h hp
    injection e with e1 e2 e3
    subst e1
    refine ⟨_, rfl, fun j hj => h.cells (g := g) rfl _ _ ?_⟩
    have hl : j < L.length := by omega
    rw [List.getElem?_map, List.getElem?_eq_getElem hl, List.getD_eq_getElem?_getD, List.getElem?_eq_getElem hl]
    rfl
  · rcases h.2 with ⟨h1, h2⟩ | ⟨g, cap, cur, e, hb, hg, hle, _⟩
    · omega
    · injection e with e1 e2 e3
      omega
theorem order_len (down : Bool) (ts : List (Int × ByteArray)) : (orderL (keysB down ts)).length = ts.length := by rw [orderL_eq, List.length_map, orderN_length]; simp [keysB]
theorem run_append_none {P : Program} {w : World} (base : Nat) (t ty e : TypeId) (i : TypeInfo) (size c : Nat) (ht : P.underlying t = some (.slice e)) (hi : P.info? e = some i)
    (v : Value) (n : Nat) (xs : List Value) (hown : w.ownsRow base e size v n xs) :
    (Builtin.append_ #[t, t] ty #[v, .slice none 0 c]).run P w = .ok v w := by
  rcases hown.2 with ⟨rfl, rfl⟩ | ⟨g, cap, cur, rfl, _, _, hnc, _⟩
  · simp [Builtin.append_, run_underlying ht, sizeOf, typeInfo, hi, Builtin.lenOf, Builtin.firstCells]
  · simp [Builtin.append_, run_underlying ht, sizeOf, typeInfo, hi, Builtin.lenOf, Builtin.firstCells, hnc, storeCells]
theorem wpList_append_none {P : Program} {w : World} {ops : Array Oper} {rest : List Oper} {o : Oper} {a : Act} {Q : Exit → Act → World → Prop} (hgd : o.guard = none) (s x : Operand) (t : TypeId)
    (ho : o.op = .call { callee := .builtin .append, args := #[s, x], argTypes := #[t, t] })
    (base : Nat) (e : TypeId) (i : TypeInfo) (size c : Nat) (ht : P.underlying t = some (.slice e)) (hi : P.info? e = some i)
    (v : Value) (n : Nat) (xs : List Value) (hs : a.eval s = v) (hown : w.ownsRow base e size v n xs) (hx : a.eval x = .slice none 0 c)
    (h : wpList P ops Q rest (a.put o.dst v) w) : wpList P ops Q (o :: rest) a w := by
  refine wpList_plain hgd fun K hK => ?_
  have hrun := run_append_none (P := P) (w := w) base t o.type e i size c ht hi v n xs hown
  unfold Oper.wp
  simp [execOp, ho, resolve, invoke, builtin, hs, hx, hrun, Result.andThen]
  exact hK _ _ h
theorem ThingRow.none_len {w : World} {ts : List (Int × ByteArray)} (h : ThingRow w none ts) : ts.length = 0 := by
  rcases Nat.eq_zero_or_pos ts.length with e | e
  · exact e
  · obtain ⟨_, e', _⟩ := h 0 e
    cases e'
theorem grown_one {w w1 : World} {o : Obj} {row : Option Nat} (hg : (w.alloc o).grownBy w1 row) : w.grownBy w1 row :=
  ⟨hg.os, hg.tape, hg.output, Nat.le_trans (by show w.heap.size ≤ (w.heap.push _).size; simp) hg.size, fun i hi hne => (hg.block i (Nat.lt_of_lt_of_le hi (by show w.heap.size ≤ (w.heap.push _).size; simp)) hne).trans (by first | exact heap_alloc_old w o hi | exact heap_alloc_old w o i hi)⟩
set_option maxRecDepth 100000 in
set_option maxHeartbeats 4000000 in
theorem rankBy_calls (down : Bool) (A0 : Option Addr) (c0 : Nat) (ts : List (Int × ByteArray)) (w : World) (hT : ThingRow w A0 ts) (hn : ts.length * 24 ≤ 140737488351232) (hr : ∀ t ∈ ts, -9223372036854775808 ≤ t.1 ∧ t.1 < 9223372036854775808)
    (haw : ∀ W, Calls Try.prog 15 #[] W fun e w' => e = .returned (.bool true) ∧ Below W.heap.size W w')
    (hord : ∀ W A c, Kd.C (Kd.int .i64) W A ts.length (keysB down ts) → ts.length ≤ c → Calls Try.prog 22 #[.slice A ts.length c] W fun e w' => ∃ v, e = .returned v ∧ Kd.R (Kd.int .i64) 3 w' W.heap.size (fun _ => True) v (orderL (keysB down ts)) ∧ Below W.heap.size W w')
    (hints : ∀ W A B c d, Kd.C (Kd.int .i64) W A ts.length (orderL (keysB down ts)) → Kd.C (Kd.int .i64) W B ts.length (orderL (keysB down ts)) → ts.length ≤ c → ts.length ≤ d → Calls Try.prog 21 #[.slice A ts.length c, .slice B ts.length d] W fun e w' => e = .returned (.bool true) ∧ Below W.heap.size W w') :
    Calls Try.prog 7 #[.slice A0 ts.length c0, .bool down] w fun e w' => e = .returned (.bool true) ∧ Below w.heap.size w w' := by
  have mixed : Try.prog.follows .mixedOrders = true := by kernel_rfl
  obtain ⟨i0, hi, hz0, hz1, hz2⟩ := info_parts infoT
  obtain ⟨i1, ji, jz0, jz1, jz2⟩ := info_parts infoI
  have HT := Aside0.mk hT
  have HL := Go.Lib.hid hn
  have HR := Aside0.mk hr
  have HW := Aside0.mk haw
  have HO := Aside0.mk hord
  have HI := Aside0.mk hints
  clear hT hn hr haw hord hints
  cases A0 with
  | none =>
  have HZ := Go.Lib.hid HT.out.none_len
  have hs1 : (w.alloc (.cells #[.bool down] 4)).heap.size = w.heap.size + 1 := World.size_alloc _ _
  have OW : Aside0 (((w.alloc (.cells #[.bool down] 4)).alloc (.cells #[] 38)).ownsRow (w.heap.size + 1) 38 2 (.slice (some ⟨w.heap.size + 1, 0, none⟩) 0 0) 0 []) := by
    have h := World.ownsRow_made (base := w.heap.size + 1) (e := 38) (size := 2) (w.alloc (.cells #[.bool down] 4)) #[] 0 (Nat.le_of_eq hs1.symm) (Nat.zero_le _) (by simp)
    rw [hs1] at h
    exact ⟨h⟩
  have B2 : Aside0 (Below w.heap.size w ((w.alloc (.cells #[.bool down] 4)).alloc (.cells #[] 38))) := ⟨below_alloc (below_alloc (Below.refl _ w) _) _⟩
  have s2 : Hid (((w.alloc (.cells #[.bool down] 4)).alloc (.cells #[] 38)).heap.size = w.heap.size + 2) := by show _ = _; rw [World.size_alloc, hs1]
  clear hs1
  go_enter Try.func7, Try.ntmps7
  go_wp2_with (at_builtin; go_loud (refine wpList_append_none rfl _ _ 36 rfl (w.heap.size + 1) 38 i0 2 c0 Try.underlying36 hi _ 0 [] rfl ?qo ?qx ?_))
  case qo => exact OW.out
  case qx => show Value.slice none ts.length c0 = Value.slice none 0 c0; rw [HZ.out]
  have D2 : Aside0 (((w.alloc (.cells #[.bool down] 4)).alloc (.cells #[] 38)).cell? ⟨w.heap.size, 0, none⟩ = some (.bool down)) := by
    have h0 : (w.alloc (.cells #[.bool down] 4)).cell? ⟨w.heap.size, 0, none⟩ = some (.bool down) := by unfold World.cell?; rw [heap_alloc_new w _]; rfl
    exact ⟨cell_up (below_alloc (Below.refl _ _) _) h0 (cell_lt' h0)⟩
  obtain ⟨w1, ew1⟩ : ∃ W, W = (w.alloc (.cells #[.bool down] 4)).alloc (.cells #[] 38) := ⟨_, rfl⟩
  rw [← ew1] at D2 B2 ⊢
  have s3 : Hid (w1.heap.size = w.heap.size + 1 + 1) := by show _ = _; rw [ew1]; exact s2.out
  have B1 := B2
  have D1 := D2
  have K0 : Aside0 ((w1.alloc (.cells #[] 2)).ownsRow w1.heap.size 2 1 (.slice (some ⟨w1.heap.size, 0, none⟩) 0 0) 0 []) := ⟨World.ownsRow_made w1 #[] 0 (Nat.le_refl _) (Nat.zero_le _) (by simp)⟩
  have K1 : Aside0 (Below w1.heap.size w1 (w1.alloc (.cells #[] 2))) := ⟨below_alloc (Below.refl _ _) _⟩
  clear OW B2 s2 ew1 D2
  go_wp2_with fail
  go_loopg [6, 7] (ts.length + 1) (fun kx s6 s7 wr => ∃ (i : Nat) (vk : Value), vk = s6 ∧ s7 = .int .i64 (i : Int) ∧ Hid (i ≤ ts.length ∧ ts.length < i + kx) ∧ Aside0 (wr.ownsRow w1.heap.size 2 1 vk i (((keysB down ts).take i).map (fun x => Value.int .i64 x)) ∧ Below w1.heap.size w1 wr))
  case atStart => exact ⟨0, _, rfl, rfl, ⟨Nat.zero_le _, by omega⟩, ⟨by have h := K0.out; rw [s3.out] at h; rw [s3.out]; exact h, K1.out⟩⟩
  case round =>
    clear K0 K1
    obtain ⟨i, vk, rfl, rfl, hj, H1⟩ := hrel
    by_cases ci : i < ts.length
    · exact absurd ci (by have := HZ.out; omega)
    · have e9 : i = ts.length := by have := hj.1; omega
      subst e9
      obtain ⟨ak, ck, rfl⟩ := own_form H1.out.1
      have HK := Aside0.mk (own_keys (L := keysB down ts) (by have h := H1.out.1; rw [List.take_of_length_le (by simp [keysB])] at h; exact h) (by simp [keysB]) (by have := HL.out; omega))
      have hby := Aside0.mk (by_calls w.heap.size down none c0 ts wr (cell_up H1.out.2 D1.out (cell_lt' D1.out)) ((HT.out.kept B1.out).kept H1.out.2) (by have := HL.out; omega))
      clear hj ci
      go_wp2_with (go_at_call 19; refine hby.out.mono ?_; rintro e w3 ⟨vo, rfl, hRo, hB3⟩; rw [by_order] at hRo; obtain ⟨A3, c3, e3, hlc3, hC3⟩ := Kd.R_reads hRo; rw [order_len] at e3 hlc3 hC3; subst e3; have H3 := Aside0.mk (And.intro (And.intro hC3 hlc3) hB3); clear hRo hB3 hby hC3 hlc3)
      go_loopg [10] (ts.length + 1) (fun kx s10 wr2 => ∃ (i : Nat), s10 = .int .i64 (i : Int) ∧ Hid (i ≤ ts.length ∧ ts.length < i + kx) ∧ Aside0 (Below w3.heap.size w3 wr2))
      case atStart => exact ⟨0, rfl, ⟨Nat.zero_le _, by omega⟩, ⟨Below.refl _ _⟩⟩
      case round =>
        obtain ⟨i, rfl, hj, H4⟩ := hrel
        by_cases ci : i < ts.length
        · exact absurd ci (by have := HZ.out; omega)
        · have e9 : i = ts.length := by have := hj.1; omega
          subst e9
          have hbn := Aside0.mk (by_nil none c0 ts wr (by have := HL.out; omega))
          clear hj ci
          go_wp2_with (go_at_call 19; refine hbn.out.mono ?_; rintro e w5 ⟨vn, rfl, hRn, hB5⟩; obtain ⟨A5, c5, e5, hlc5, hC5⟩ := Kd.R_reads hRn; rw [by_none_length] at e5 hlc5 hC5; subst e5; have H5 := Aside0.mk (And.intro hC5 hB5); clear hRn hB5 hbn hC5 hlc5)
          have HN : Aside0 (∀ i : Nat, i < ts.length → ∃ ad, A5 = some ad ∧ w5.cell? (ad.add i) = some (.int .i64 (i : Int))) := ⟨fun i hi => by
            obtain ⟨ad, e, h⟩ := reads_n H5.out.1 i hi
            rw [by_none_get _ _ hi] at h
            exact ⟨ad, e, h⟩⟩
          go_loopg [12] (ts.length + 1) (fun kx s12 wr3 => ∃ (i : Nat), s12 = .int .i64 (i : Int) ∧ Hid (i ≤ ts.length ∧ ts.length < i + kx) ∧ Aside0 (Below w5.heap.size w5 wr3))
          case atStart => exact ⟨0, rfl, ⟨Nat.zero_le _, by omega⟩, ⟨Below.refl _ _⟩⟩
          case round =>
            obtain ⟨i, rfl, hj, H6⟩ := hrel
            by_cases ci : i < ts.length
            · exact absurd ci (by have := HZ.out; omega)
            · have e9 : i = ts.length := by have := hj.1; omega
              subst e9
              clear hj ci
              go_wp2_with (go_at_call 15; refine (HW.out _).mono ?_; rintro e w7 ⟨rfl, hB7⟩; have H7 := Aside0.mk hB7; clear hB7)
              have h67 : Below wr.heap.size wr w7 := by first | exact H7.out | exact (pw_below_drewN (Below.refl _ _)).trans H7.out | exact (below_drew1 (Below.refl _ _)).trans H7.out
              have HK7 := Aside0.mk (Kd.C_below (Kd.C_below (Kd.C_below (Kd.C_below (Kd.C_below HK.out.1 H3.out.2) H4.out) H5.out.2) H6.out) h67)
              have HO7 := Aside0.mk (Kd.C_below (Kd.C_below (Kd.C_below (Kd.C_below H3.out.1.1 H4.out) H5.out.2) H6.out) h67)
              have H67 := Aside0.mk h67
              clear h67
              refine (HO.out w7 ak ck HK7.out HK.out.2).mono ?_
              rintro e w8 ⟨vr, rfl, hRr, hB8⟩
              obtain ⟨A8, c8, e8, hlc8, hC8⟩ := Kd.R_reads hRr
              rw [order_len] at e8 hlc8 hC8
              subst e8
              have H8 := Aside0.mk (And.intro (And.intro hC8 hlc8) hB8)
              clear hRr hB8 hC8 hlc8
              go_wp2_with (go_at_call 21; refine (HI.out w8 A3 A8 c3 c8 (Kd.C_below HO7.out H8.out.2) H8.out.1.1 H3.out.1.2 H8.out.1.2).mono ?_; rintro e w9 ⟨rfl, hB9⟩; have H9 := Aside0.mk hB9; clear hB9)
              go_ret
              have b1 := B1.out
              have b2 := b1.trans (H1.out.2.mono b1.size)
              have b3 := b2.trans (H3.out.2.mono b2.size)
              have b4 := b3.trans (H4.out.mono b3.size)
              have b5 := b4.trans (H5.out.2.mono b4.size)
              have b6 := b5.trans (H6.out.mono b5.size)
              have b7 := b6.trans (H67.out.mono b6.size)
              have b8 := b7.trans (H8.out.2.mono b7.size)
              have b9 := b8.trans (H9.out.mono b8.size)
              exact ⟨rfl, by repeat (first | exact b9 | apply below_alloc | apply pw_below_drewN | apply below_drew1)⟩
  | some ad =>
  have hs1 : (w.alloc (.cells #[.bool down] 4)).heap.size = w.heap.size + 1 := World.size_alloc _ _
  have OW : Aside0 (((w.alloc (.cells #[.bool down] 4)).alloc (.cells #[] 38)).ownsRow (w.heap.size + 1) 38 2 (.slice (some ⟨w.heap.size + 1, 0, none⟩) 0 0) 0 []) := by
    have h := World.ownsRow_made (base := w.heap.size + 1) (e := 38) (size := 2) (w.alloc (.cells #[.bool down] 4)) #[] 0 (Nat.le_of_eq hs1.symm) (Nat.zero_le _) (by simp)
    rw [hs1] at h
    exact ⟨h⟩
  have B2 : Aside0 (Below w.heap.size w ((w.alloc (.cells #[.bool down] 4)).alloc (.cells #[] 38))) := ⟨below_alloc (below_alloc (Below.refl _ w) _) _⟩
  have s2 : Hid (((w.alloc (.cells #[.bool down] 4)).alloc (.cells #[] 38)).heap.size = w.heap.size + 2) := by show _ = _; rw [World.size_alloc, hs1]
  clear hs1
  go_enter Try.func7, Try.ntmps7
  go_wp2_with (at_builtin; go_loud (refine wpList_append_own _ rfl _ _ 36 rfl (w.heap.size + 1) 38 i0 (.agg #[.int .i64 0, .string ByteArray.empty]) 2 24 Try.underlying36 hi hz0 hz1 hz2 rfl (by decide) _ 0 [] rfl ?qo ad ts.length c0 (thingCells ts) rfl ?qc1 ?qc2 ?qc3 ?qc4 ?qc5 ?qc6 ?_))
  case qo => exact OW.out
  case qc1 => exact thingCells_len ts
  case qc2 => exact (HT.out.kept B2.out).cells
  case qc3 =>
    intro u hu
    obtain ⟨s, _, hs⟩ := List.mem_flatMap.1 hu
    simp at hs
    rcases hs with rfl | rfl <;> rfl
  case qc4 => have := HL.out; unfold maxLen; omega
  case qc5 => have := HL.out; omega
  case qc6 => have := s2.out; omega
  intro vt w1 hown hgrow hnil
  have B1 : Aside0 (Below w.heap.size w w1) := ⟨B2.out.grown hgrow (by have := s2.out; omega) (by intro k hk; simp [Value.ownBlock] at hk; omega)⟩
  have D1 : Aside0 (w1.cell? ⟨w.heap.size, 0, none⟩ = some (.bool down)) := by
    have h : ((w.alloc (.cells #[.bool down] 4)).alloc (.cells #[] 38)).cell? ⟨w.heap.size, 0, none⟩ = some (.bool down) := by
      have h0 : (w.alloc (.cells #[.bool down] 4)).cell? ⟨w.heap.size, 0, none⟩ = some (.bool down) := by unfold World.cell?; rw [heap_alloc_new w _]; rfl
      exact cell_up (below_alloc (Below.refl _ _) _) h0 (cell_lt' h0)
    exact ⟨hgrow.cell h (by simp [Value.ownBlock])⟩
  obtain ⟨at1, ct1, rfl⟩ := own_form hown
  have T1 : Aside0 (ThingRow w1 at1 ts) := ⟨own_things (by simpa using hown)⟩
  have K0 : Aside0 ((w1.alloc (.cells #[] 2)).ownsRow w1.heap.size 2 1 (.slice (some ⟨w1.heap.size, 0, none⟩) 0 0) 0 []) := ⟨World.ownsRow_made w1 #[] 0 (Nat.le_refl _) (Nat.zero_le _) (by simp)⟩
  have K1 : Aside0 (Below w1.heap.size w1 (w1.alloc (.cells #[] 2))) := ⟨below_alloc (Below.refl _ _) _⟩
  clear hown hgrow hnil OW B2 s2
  go_wp2_with fail
  go_loopg [6, 7] (ts.length + 1) (fun kx s6 s7 wr => ∃ (i : Nat) (vk : Value), vk = s6 ∧ s7 = .int .i64 (i : Int) ∧ Hid (i ≤ ts.length ∧ ts.length < i + kx) ∧ Aside0 (wr.ownsRow w1.heap.size 2 1 vk i (((keysB down ts).take i).map (fun x => Value.int .i64 x)) ∧ Below w1.heap.size w1 wr))
  case atStart => exact ⟨0, _, rfl, rfl, ⟨Nat.zero_le _, by omega⟩, ⟨K0.out, K1.out⟩⟩
  case round =>
    clear K0 K1
    obtain ⟨i, vk, rfl, rfl, hj, H1⟩ := hrel
    by_cases ci : i < ts.length
    · have hd := cell_up H1.out.2 D1.out (cell_lt' D1.out)
      obtain ⟨ad', e', hg0, _⟩ := (HT.out.kept B1.out) i ci
      injection e' with e'
      subst e'
      have hg := cell_up H1.out.2 hg0 (cell_lt' hg0)
      obtain ⟨x, ex⟩ : ∃ x, x = (ts.getD i (0, ByteArray.empty)).1 := ⟨_, rfl⟩
      rw [← ex] at hg
      have hrx : -9223372036854775808 ≤ x ∧ x < 9223372036854775808 := by
        rw [ex, List.getD_eq_getElem?_getD, List.getElem?_eq_getElem ci]
        exact HR.out _ (List.getElem_mem _)
      have z1 : decide ((i : Int) < (ts.length : Int)) = true := decide_eq_true (by omega)
      have z3 : 0 ≤ (i : Int) := by omega
      have z4 : (i : Int) < (ts.length : Int) := by omega
      have z5 : wrap64 ((i : Int) + 1) = ((i + 1 : Nat) : Int) := by have := HL.out; unfold wrap64; omega
      have z6 : wrap64 (-(x / 2)) = -(x / 2) := by unfold wrap64; omega
      have CI := Go.Lib.hid ci
      have EX := Aside0.mk ex
      clear ci ex hg0 hrx
      cases down with
      | true =>
        go_wp2_with (at_builtin; go_loud (refine wpList_append_lies _ rfl _ _ _ rfl w1.heap.size 2 i1 _ 1 8 Try.underlying22 ji jz0 jz1 jz2 rfl (by omega) vk i _ rfl (H1.out.1.alloc _) ⟨wr.heap.size, 0, none⟩ 1 1 [.int .i64 (x / 2)] rfl rfl (World.news_of_block (cs := #[.int .i64 (x / 2)]) (t := 2) (fr := (0, 0)) (heap_alloc_new wr _)) (by simp [Value.oneCell']) (by omega) (by have := HL.out; have := CI.out; unfold maxLen; omega) (by have := HL.out; have := CI.out; omega) (by have := H1.out.2.size; simp; omega) (wr.heap.size + 1) (by simp) ?_); intro gg cap w2 hown1 hgrow hat hlt)
        have hnew : Aside0 (w2.ownsRow w1.heap.size 2 1 (.slice (some ⟨gg, 0, none⟩) (i + 1) cap) (i + 1) (((keysB true ts).take (i + 1)).map (fun x => Value.int .i64 x))) := by
          have e : ((keysB true ts).take (i + 1)).map (fun x => Value.int .i64 x) = ((keysB true ts).take i).map (fun x => Value.int .i64 x) ++ [.int .i64 (x / 2)] := by
            have h := keysB_get true ts i CI.out
            rw [← EX.out] at h
            have hl : i < (keysB true ts).length := by simp [keysB]; exact CI.out
            rw [List.take_succ_eq_append_getElem hl, List.map_append, List.map_singleton]
            rw [List.getD_eq_getElem?_getD, List.getElem?_eq_getElem hl] at h
            rw [show (keysB true ts)[i] = x / 2 from h]
          rw [e]
          exact ⟨hown1⟩
        have hbel : Aside0 (Below w1.heap.size w1 w2) := ⟨H1.out.2.grown (grown_one hgrow) (H1.out.2.size) (fun k hk => (H1.out.1.lt k hk).1)⟩
        clear hown1 hgrow hat hlt
        go_wp2_with fail
        go_roundg (ts.length - i)
        case measure => have := hj.2; have := CI.out; omega
        case rel => exact ⟨i + 1, _, rfl, congrArg (Value.int .i64) z5, ⟨by have := CI.out; omega, by have := CI.out; omega⟩, ⟨hnew.out, hbel.out⟩⟩
      | false =>
        go_wp2_with (at_builtin; go_loud (refine wpList_append_lies _ rfl _ _ _ rfl w1.heap.size 2 i1 _ 1 8 Try.underlying22 ji jz0 jz1 jz2 rfl (by omega) vk i _ rfl (H1.out.1.alloc _) ⟨wr.heap.size, 0, none⟩ 1 1 [.int .i64 (-(x / 2))] rfl rfl (World.news_of_block (cs := #[.int .i64 (-(x / 2))]) (t := 2) (fr := (0, 0)) (heap_alloc_new wr _)) (by simp [Value.oneCell']) (by omega) (by have := HL.out; have := CI.out; unfold maxLen; omega) (by have := HL.out; have := CI.out; omega) (by have := H1.out.2.size; simp; omega) (wr.heap.size + 1) (by simp) ?_); intro gg cap w2 hown1 hgrow hat hlt)
        have hnew : Aside0 (w2.ownsRow w1.heap.size 2 1 (.slice (some ⟨gg, 0, none⟩) (i + 1) cap) (i + 1) (((keysB false ts).take (i + 1)).map (fun x => Value.int .i64 x))) := by
          have e : ((keysB false ts).take (i + 1)).map (fun x => Value.int .i64 x) = ((keysB false ts).take i).map (fun x => Value.int .i64 x) ++ [.int .i64 (-(x / 2))] := by
            have h := keysB_get false ts i CI.out
            rw [← EX.out] at h
            have hl : i < (keysB false ts).length := by simp [keysB]; exact CI.out
            rw [List.take_succ_eq_append_getElem hl, List.map_append, List.map_singleton]
            rw [List.getD_eq_getElem?_getD, List.getElem?_eq_getElem hl] at h
            rw [show (keysB false ts)[i] = -(x / 2) from h]
          rw [e]
          exact ⟨hown1⟩
        have hbel : Aside0 (Below w1.heap.size w1 w2) := ⟨H1.out.2.grown (grown_one hgrow) (H1.out.2.size) (fun k hk => (H1.out.1.lt k hk).1)⟩
        clear hown1 hgrow hat hlt
        go_wp2_with fail
        go_roundg (ts.length - i)
        case measure => have := hj.2; have := CI.out; omega
        case rel => exact ⟨i + 1, _, rfl, congrArg (Value.int .i64) z5, ⟨by have := CI.out; omega, by have := CI.out; omega⟩, ⟨hnew.out, hbel.out⟩⟩
    · have e9 : i = ts.length := by have := hj.1; omega
      subst e9
      obtain ⟨ak, ck, rfl⟩ := own_form H1.out.1
      have HK := Aside0.mk (own_keys (L := keysB down ts) (by have h := H1.out.1; rw [List.take_of_length_le (by simp [keysB])] at h; exact h) (by simp [keysB]) (by have := HL.out; omega))
      have hby := Aside0.mk (by_calls w.heap.size down (some ad) c0 ts wr (cell_up H1.out.2 D1.out (cell_lt' D1.out)) ((HT.out.kept B1.out).kept H1.out.2) (by have := HL.out; omega))
      clear hj ci
      go_wp2_with (go_at_call 19; refine hby.out.mono ?_; rintro e w3 ⟨vo, rfl, hRo, hB3⟩; rw [by_order] at hRo; obtain ⟨A3, c3, e3, hlc3, hC3⟩ := Kd.R_reads hRo; rw [order_len] at e3 hlc3 hC3; subst e3; have H3 := Aside0.mk (And.intro (And.intro hC3 hlc3) hB3); clear hRo hB3 hby hC3 hlc3)
      go_loopg [10] (ts.length + 1) (fun kx s10 wr2 => ∃ (i : Nat), s10 = .int .i64 (i : Int) ∧ Hid (i ≤ ts.length ∧ ts.length < i + kx) ∧ Aside0 (Below w3.heap.size w3 wr2))
      case atStart => exact ⟨0, rfl, ⟨Nat.zero_le _, by omega⟩, ⟨Below.refl _ _⟩⟩
      case round =>
        obtain ⟨i, rfl, hj, H4⟩ := hrel
        by_cases ci : i < ts.length
        · obtain ⟨ad', e', l0, l1⟩ := ((((HT.out.kept B1.out).kept H1.out.2).kept H3.out.2).kept H4.out) i ci
          injection e' with e'
          subst e'
          obtain ⟨ad2, rfl, t0, t1⟩ := (((T1.out.kept H1.out.2).kept H3.out.2).kept H4.out) i ci
          obtain ⟨x, ex⟩ : ∃ x, x = (ts.getD i (0, ByteArray.empty)).1 := ⟨_, rfl⟩
          obtain ⟨y, ey⟩ : ∃ y, y = (ts.getD i (0, ByteArray.empty)).2 := ⟨_, rfl⟩
          rw [← ex] at l0 t0
          rw [← ey] at l1 t1
          have eqT := neT x y
          have gr : ∀ (a : Addr) v, wr.cell? a = some v → ∀ n os, (grow (wr.drewN n) os).cell? a = some v := by
            intro a v h n os
            rw [cell?_grow (wr.drewN n) os a (cell_lt' h)]
            exact h
          have l0g := gr _ _ l0
          have l1g := gr _ _ l1
          have t0g := gr _ _ t0
          have t1g := gr _ _ t1
          clear gr
          have z1 : decide ((i : Int) < (ts.length : Int)) = true := decide_eq_true (by omega)
          have z3 : 0 ≤ (i : Int) := by omega
          have z4 : (i : Int) < (ts.length : Int) := by omega
          have z5 : wrap64 ((i : Int) + 1) = ((i + 1 : Nat) : Int) := by have := HL.out; unfold wrap64; omega
          have CI := Go.Lib.hid ci
          clear ci ex ey
          go_wp2_with fail
          go_region
          go_wp2_with fail
          go_roundg (ts.length - i)
          case measure => have := hj.2; have := CI.out; omega
          case rel => exact ⟨i + 1, congrArg (Value.int .i64) z5, ⟨by have := CI.out; omega, by have := CI.out; omega⟩, ⟨by repeat (first | exact H4.out | apply below_alloc | apply pw_below_drewN | apply below_drew1)⟩⟩
        · have e9 : i = ts.length := by have := hj.1; omega
          subst e9
          have hbn := Aside0.mk (by_nil (some ad) c0 ts wr (by have := HL.out; omega))
          clear hj ci
          go_wp2_with (go_at_call 19; refine hbn.out.mono ?_; rintro e w5 ⟨vn, rfl, hRn, hB5⟩; obtain ⟨A5, c5, e5, hlc5, hC5⟩ := Kd.R_reads hRn; rw [by_none_length] at e5 hlc5 hC5; subst e5; have H5 := Aside0.mk (And.intro hC5 hB5); clear hRn hB5 hbn hC5 hlc5)
          have HN : Aside0 (∀ i : Nat, i < ts.length → ∃ ad, A5 = some ad ∧ w5.cell? (ad.add i) = some (.int .i64 (i : Int))) := ⟨fun i hi => by
            obtain ⟨ad, e, h⟩ := reads_n H5.out.1 i hi
            rw [by_none_get _ _ hi] at h
            exact ⟨ad, e, h⟩⟩
          go_loopg [12] (ts.length + 1) (fun kx s12 wr3 => ∃ (i : Nat), s12 = .int .i64 (i : Int) ∧ Hid (i ≤ ts.length ∧ ts.length < i + kx) ∧ Aside0 (Below w5.heap.size w5 wr3))
          case atStart => exact ⟨0, rfl, ⟨Nat.zero_le _, by omega⟩, ⟨Below.refl _ _⟩⟩
          case round =>
            obtain ⟨i, rfl, hj, H6⟩ := hrel
            by_cases ci : i < ts.length
            · obtain ⟨ad5, rfl, n0⟩ := HN.out i ci
              have n1 := cell_up H6.out n0 (cell_lt' n0)
              have z1 : decide ((i : Int) < (ts.length : Int)) = true := decide_eq_true (by omega)
              have z3 : 0 ≤ (i : Int) := by omega
              have z4 : (i : Int) < (ts.length : Int) := by omega
              have z5 : wrap64 ((i : Int) + 1) = ((i + 1 : Nat) : Int) := by have := HL.out; unfold wrap64; omega
              have CI := Go.Lib.hid ci
              clear ci n0
              go_wp2_with fail
              go_roundg (ts.length - i)
              case measure => have := hj.2; have := CI.out; omega
              case rel => exact ⟨i + 1, congrArg (Value.int .i64) z5, ⟨by have := CI.out; omega, by have := CI.out; omega⟩, ⟨by repeat (first | exact H6.out | apply below_alloc | apply pw_below_drewN | apply below_drew1)⟩⟩
            · have e9 : i = ts.length := by have := hj.1; omega
              subst e9
              clear hj ci
              go_wp2_with (go_at_call 15; refine (HW.out _).mono ?_; rintro e w7 ⟨rfl, hB7⟩; have H7 := Aside0.mk hB7; clear hB7)
              have h67 : Below wr.heap.size wr w7 := by first | exact H7.out | exact (pw_below_drewN (Below.refl _ _)).trans H7.out | exact (below_drew1 (Below.refl _ _)).trans H7.out
              have HK7 := Aside0.mk (Kd.C_below (Kd.C_below (Kd.C_below (Kd.C_below (Kd.C_below HK.out.1 H3.out.2) H4.out) H5.out.2) H6.out) h67)
              have HO7 := Aside0.mk (Kd.C_below (Kd.C_below (Kd.C_below (Kd.C_below H3.out.1.1 H4.out) H5.out.2) H6.out) h67)
              have H67 := Aside0.mk h67
              clear h67
              refine (HO.out w7 ak ck HK7.out HK.out.2).mono ?_
              rintro e w8 ⟨vr, rfl, hRr, hB8⟩
              obtain ⟨A8, c8, e8, hlc8, hC8⟩ := Kd.R_reads hRr
              rw [order_len] at e8 hlc8 hC8
              subst e8
              have H8 := Aside0.mk (And.intro (And.intro hC8 hlc8) hB8)
              clear hRr hB8 hC8 hlc8
              go_wp2_with (go_at_call 21; refine (HI.out w8 A3 A8 c3 c8 (Kd.C_below HO7.out H8.out.2) H8.out.1.1 H3.out.1.2 H8.out.1.2).mono ?_; rintro e w9 ⟨rfl, hB9⟩; have H9 := Aside0.mk hB9; clear hB9)
              go_ret
              have b1 := B1.out
              have b2 := b1.trans (H1.out.2.mono b1.size)
              have b3 := b2.trans (H3.out.2.mono b2.size)
              have b4 := b3.trans (H4.out.mono b3.size)
              have b5 := b4.trans (H5.out.2.mono b4.size)
              have b6 := b5.trans (H6.out.mono b5.size)
              have b7 := b6.trans (H67.out.mono b6.size)
              have b8 := b7.trans (H8.out.2.mono b7.size)
              have b9 := b8.trans (H9.out.mono b8.size)
              exact ⟨rfl, by repeat (first | exact b9 | apply below_alloc | apply pw_below_drewN | apply below_drew1)⟩
end Go.Proofs.Ytfegaffcalpmbaa.St
