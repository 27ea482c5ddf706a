import Derived.Test.YtmdgdndidfcapaaKQBx11
namespace Go.Proofs.Ytmdgdndidfcapaa.QB
open Go.RowKit Go.Proofs.YtmdgdndidfcapaaW.PrintWords Go.Proofs.YtmdgdndidfcapaaW.PrintLast Go.Proofs.YtmdgdndidfcapaaW.PrintMore
attribute [local go_sem] max2_int min2_int max_two min_two max_three min_three max_four min_four   -- for this text's walks alone
set_option linter.unusedVariables false
set_option linter.unusedSimpArgs false
def wire_Bytes.T30 : Bool × List (List Nat × List Nat) := (true, [([], []), ([], []), ([1], [1]), ([2], [2]), ([0, 3], [0, 3]), ([], []), ([5], [5]), ([4, 6, 4], [4, 6]), ([7, 7, 0, 1, 2, 3, 4, 5, 6, 7], [7])])
def wire_Bytes.B30 : List Nat := [0, 0, 2, 6, 15, 0, 32, 127, 255]
theorem wire_Bytes.tab30 : rtab .any (opsOf Try.f24 30) = wire_Bytes.T30 := by kernel_rfl
theorem wire_Bytes.bits30 : waitsOk wire_Bytes.T30.2 wire_Bytes.B30 = true := by kernel_rfl
set_option maxHeartbeats 4000000 in
set_option maxRecDepth 100000 in
theorem wire_Bytes.putX (k : Nat) (P0_ : Nat → Prop) (u : Value) (l0 : List Int) (a1_0 : Int) (a1_1 : Int) (a1_2 : ByteArray) (a1_3 : ByteArray) (a1_4 : ByteArray) (a1_5 : ByteArray) (a1_6 : ByteArray) (a1_7 : ByteArray) (a1_8 : Int) (a1_9 : Int) (a1_10 : Int) (a1_11 : Int) (a1_12 : Int) (A1_13 : Option Addr) (c1_13 : Nat) (l1_13 : List Int) (t : List Int) (w0 w : World) (hB : Below w0.heap.size w0 w) (ho0 : Kd.R (Kd.int .u8) 5 w w0.heap.size P0_ u l0) (h : field_Put16.f k l0 (a1_7.size : Int) = some t) (hl : t.length + a1_7.size < 140737488355328) :
  Calls Try.prog 24 #[u, .agg #[.int .i64 a1_0, .int .i64 a1_1, .string a1_2, .string a1_3, .string a1_4, .string a1_5, .string a1_6, .string a1_7, .int .i64 a1_8, .int .i64 a1_9, .int .i64 a1_10, .int .i64 a1_11, .int .i64 a1_12, .slice A1_13 l1_13.length c1_13], .int .i32 88] w fun e w' => ∃ v0_ : Value, e = .returned (v0_) ∧ Kd.R (Kd.int .u8) 5 w' w0.heap.size (fun k_ => (P0_ k_ ∨ w.heap.size ≤ k_)) v0_ (t ++ bytesOf a1_7) ∧ Below w0.heap.size w0 w' ∧ Kept w w' (fun k_ => P0_ k_) := by
 have A4 := Aside0.mk h
 have HO0 := Aside0.mk (show Kd.R (Kd.int .u8) 5 w w0.heap.size (fun k_ => (P0_ k_ ∨ w.heap.size ≤ k_)) u l0 from Kd.R_mono ho0 (fun k_ hk => (.inl hk)))
 have HB0 := Aside0.mk hB
 have HK0 := Aside0.mk (Kept.refl w (fun k_ => P0_ k_))
 clear hB h ho0
 obtain ⟨Ao, co, eo⟩ := Kd.R_slice HO0.out
 subst eo
 have BK := Aside0.mk (blk_drew (blk_new w (.cells #[.int .i64 a1_0, .int .i64 a1_1, .string a1_2, .string a1_3, .string a1_4, .string a1_5, .string a1_6, .string a1_7, .int .i64 a1_8, .int .i64 a1_9, .int .i64 a1_10, .int .i64 a1_11, .int .i64 a1_12, .slice A1_13 l1_13.length c1_13] 30)))
 have HO := Aside0.mk (Kd.R_drew (Kd.R_alloc HO0.out (.cells #[.int .i64 a1_0, .int .i64 a1_1, .string a1_2, .string a1_3, .string a1_4, .string a1_5, .string a1_6, .string a1_7, .int .i64 a1_8, .int .i64 a1_9, .int .i64 a1_10, .int .i64 a1_11, .int .i64 a1_12, .slice A1_13 l1_13.length c1_13] 30)))
 have HB := Aside0.mk (below_drew1 (HB0.out.alloc (below_size HB0.out) (.cells #[.int .i64 a1_0, .int .i64 a1_1, .string a1_2, .string a1_3, .string a1_4, .string a1_5, .string a1_6, .string a1_7, .int .i64 a1_8, .int .i64 a1_9, .int .i64 a1_10, .int .i64 a1_11, .int .i64 a1_12, .slice A1_13 l1_13.length c1_13] 30)))
 have HK := Aside0.mk (Kept.drew (Kept.alloc HK0.out (.cells #[.int .i64 a1_0, .int .i64 a1_1, .string a1_2, .string a1_3, .string a1_4, .string a1_5, .string a1_6, .string a1_7, .int .i64 a1_8, .int .i64 a1_9, .int .i64 a1_10, .int .i64 a1_11, .int .i64 a1_12, .slice A1_13 l1_13.length c1_13] 30)))
 clear HO0 HB0 HK0
 go_enter Try.func24, Try.ntmps24
 go_wp2_with fail
 refine start_ (n := 9) (S := fun w' => w'.cell? ⟨w.heap.size, 7, none⟩ = some (.string a1_7)) (ds := []) (fl 9 0) (by kernel_rfl) rfl rfl ((blk_cell BK.out 7).trans rfl) (fun hHeld => ?_)
 refine with_tabW wire_Bytes.tab30 wire_Bytes.bits30 (fun HT_ HW_ => ?_)
 generalize (w.alloc (.cells #[.int .i64 a1_0, .int .i64 a1_1, .string a1_2, .string a1_3, .string a1_4, .string a1_5, .string a1_6, .string a1_7, .int .i64 a1_8, .int .i64 a1_9, .int .i64 a1_10, .int .i64 a1_11, .int .i64 a1_12, .slice A1_13 l1_13.length c1_13] 30)).drew = W1 at BK HO HB HK hHeld ⊢
 refine pu_ 0 94 (fl 9 1) ?_
 refine pu_ 1 95 (fl 9 3) ?_
 refine pu_ 5 99 (fl 9 35) ?_
 refine tk_1 2 96 (fl 9 39) hHeld ?_
 refine tk_1 6 100 (fl 9 103) hHeld ?_
 refine pu_ 3 97 (fl 9 111) ?_
 refine on_ 4 (some 98) (fl 9 127) fun K hK => ?_
 refine go_ Try.func40 #[.slice Ao l0.length co, .int .i64 (a1_7.size : Int)] ?_
 refine (field_Put16.calls k (fun k_ => some k_ = (.slice Ao l0.length co : Value).ownBlock) (.slice Ao l0.length co) l0 (a1_7.size : Int) t w0 _ HB.out (Kd.R_tight rfl HO.out) A4.out).mono ?_
 rintro e W2 ⟨v2, rfl, ho2, hb2, hk2⟩
 have BK2 := Aside0.mk (blk_kept BK.out hk2 (fun hs_ => (fun e_ => (Kd.R_ne HO.out BK.out (by decide)) e_) hs_))
 have HO2 := Aside0.mk (Kd.R_mono (ok' := fun k_ => (P0_ k_ ∨ w.heap.size ≤ k_)) ho2 (fun k_ hk_ => Or.elim hk_ (fun hs_ => (HO.out.1 k_ (hs_).symm)) (fun hn_ => (.inr (Nat.le_trans HK.out.1 hn_)))))
 have HK2 := Aside0.mk (Kept.then_ (S := (fun k_ => P0_ k_)) HK.out hk2 (fun k_ hs_ => (fun e_ => (HO.out.1 k_ e_.symm)) hs_))
 have HB2 := Aside0.mk hb2
 clear BK HO HK HB ho2 hb2 hk2
 refine nx_ hK ((blk_cell BK2.out 7).trans rfl) fun hHeld => ?_
 clear hK K
 refine on_ 7 (some 101) (fl 9 255) fun K hK => ?_
 refine Go.Proofs.Ytmdgdndidfcapaa.Str.step_append_str (w0 := w0) w0.heap.size (.tmp 98) (.tmp 100) 31 9 5 rfl Try.underlying31 Try.underlying9 info5 v2 t a1_7 (fun k_ => (P0_ k_ ∨ w.heap.size ≤ k_)) rfl rfl (by rfl) rfl HO2.out (fun k_ hk => .inr (Nat.le_trans HK2.out.1 hk)) HB2.out (below_size HB2.out) (by omega) ?_
 intro v3 W3 ho3 hb3 hg3
 have BK3 := Aside0.mk (blk_grown BK2.out hg3 (Kd.R_ne HO2.out BK2.out (by decide)))
 have HO3 := Aside0.mk ho3
 have HB3 := Aside0.mk hb3
 have HK3 := Aside0.mk (Kept.of_grown (S := (fun k_ => P0_ k_)) hg3 HK2.out (fun k_ e_ => (HO2.out.1 k_ e_)))
 clear BK2 HO2 HK2 HB2 ho3 hb3 hg3
 refine nm_ hK ((blk_cell BK3.out 7).trans rfl) fun hHeld => ?_
 clear hK K
 refine pu_ 8 6 (fl 9 511) ?_
 refine dn_ ?_
 go_wp2
 go_ret
 exact ⟨_, rfl, HO3.out, HB3.out, HK3.out⟩
def wire_Bytes.put2 (k : Nat) (l0 : List Int) (a0_0 : Int) (a0_1 : Int) (a0_2 : ByteArray) (a0_3 : ByteArray) (a0_4 : ByteArray) (a0_5 : ByteArray) (a0_6 : ByteArray) (a0_7 : ByteArray) (a0_8 : Int) (a0_9 : Int) (a0_10 : Int) (a0_11 : Int) (a0_12 : Int) (l0_13 : List Int) (c : Nat) : Option (List Int) :=
 if c = 88 then (field_Put16.f k l0 (a0_7.size : Int)).bind fun t => if t.length + a0_7.size < 140737488355328 then some (t ++ bytesOf a0_7) else none
 else wire_put.f k l0 a0_0 a0_1 a0_2 a0_3 a0_4 a0_5 a0_6 a0_7 a0_8 a0_9 a0_10 a0_11 a0_12 l0_13 (c : Int)
theorem wire_Bytes.put2_calls (k : Nat) (P0_ : Nat → Prop) (u9000_ : Value) (l0 : List Int) (a0_0 : Int) (a0_1 : Int) (a0_2 : ByteArray) (a0_3 : ByteArray) (a0_4 : ByteArray) (a0_5 : ByteArray) (a0_6 : ByteArray) (a0_7 : ByteArray) (a0_8 : Int) (a0_9 : Int) (a0_10 : Int) (a0_11 : Int) (a0_12 : Int) (A0_13 : Option Addr) (c0_13 : Nat) (l0_13 : List Int) (c : Nat) (r : List Int) (w0 w : World) (hB : Below w0.heap.size w0 w) (ho0 : Kd.R (Kd.int .u8) 5 w w0.heap.size P0_ u9000_ l0) (hr1_13 : ∀ W_, Kept w W_ (fun k_ => P0_ k_) → Kd.C (Kd.int .i64) W_ A0_13 l0_13.length l0_13) (hc1_13 : l0_13.length ≤ c0_13) (h : wire_Bytes.put2 k l0 a0_0 a0_1 a0_2 a0_3 a0_4 a0_5 a0_6 a0_7 a0_8 a0_9 a0_10 a0_11 a0_12 l0_13 c = some r) :
  Calls Try.prog 24 #[u9000_, .agg #[.int .i64 a0_0, .int .i64 a0_1, .string a0_2, .string a0_3, .string a0_4, .string a0_5, .string a0_6, .string a0_7, .int .i64 a0_8, .int .i64 a0_9, .int .i64 a0_10, .int .i64 a0_11, .int .i64 a0_12, .slice A0_13 l0_13.length c0_13], .int .i32 (c : Int)] w fun e w' => ∃ v0_ : Value, e = .returned (v0_) ∧ Kd.R (Kd.int .u8) 5 w' w0.heap.size (fun k_ => (P0_ k_ ∨ w.heap.size ≤ k_)) v0_ r ∧ Below w0.heap.size w0 w' ∧ Kept w w' (fun k_ => P0_ k_) := by
 unfold wire_Bytes.put2 at h
 by_cases hc : c = 88
 ·rw [if_pos hc] at h
  subst hc
  obtain ⟨t, ht, h⟩ := Option.bind_eq_some_iff.mp h
  by_cases hl : t.length + a0_7.size < 140737488355328
  ·rw [if_pos hl] at h
   obtain rfl := Option.some.inj h
   exact wire_Bytes.putX k P0_ u9000_ l0 a0_0 a0_1 a0_2 a0_3 a0_4 a0_5 a0_6 a0_7 a0_8 a0_9 a0_10 a0_11 a0_12 A0_13 c0_13 l0_13 t w0 w hB ho0 ht hl
  ·rw [if_neg hl] at h
   cases h
 ·rw [if_neg hc] at h
  exact wire_put.calls k P0_ u9000_ l0 a0_0 a0_1 a0_2 a0_3 a0_4 a0_5 a0_6 a0_7 a0_8 a0_9 a0_10 a0_11 a0_12 A0_13 c0_13 l0_13 (c : Int) r w0 w hB ho0 hr1_13 hc1_13 h
def wire_Bytes.puts (k : Nat) (a0_0 : Int) (a0_1 : Int) (a0_2 : ByteArray) (a0_3 : ByteArray) (a0_4 : ByteArray) (a0_5 : ByteArray) (a0_6 : ByteArray) (a0_7 : ByteArray) (a0_8 : Int) (a0_9 : Int) (a0_10 : Int) (a0_11 : Int) (a0_12 : Int) (l0_13 : List Int) : List UInt8 → List Int → Option (List Int)
 | [], l => some l
 | c :: cs, l => (wire_Bytes.put2 k l a0_0 a0_1 a0_2 a0_3 a0_4 a0_5 a0_6 a0_7 a0_8 a0_9 a0_10 a0_11 a0_12 l0_13 c.toNat).bind fun l => wire_Bytes.puts k a0_0 a0_1 a0_2 a0_3 a0_4 a0_5 a0_6 a0_7 a0_8 a0_9 a0_10 a0_11 a0_12 l0_13 cs l
theorem iter_not_own {w : World} {base : Nat} {ok : Nat → Prop} {v : Value} {xs : List Int} {K : Nat} {s : ByteArray} {pos : Nat} (h : Kd.R (Kd.int .u8) 5 w base ok v xs) (hk : w.heap[K]? = some (.stringIter s pos)) : some K ≠ v.ownBlock := by
 intro e
 obtain ⟨cells, hc⟩ := own_typed (Kd.own_of_R h) K e.symm
 rw [hk] at hc
 cases hc
def wire_Bytes.Loop (w W : World) (K : Nat) (cs : Array Value) (s : ByteArray) (pos : Nat) (v : Value) (l : List Int) : Prop := Below w.heap.size w W ∧ W.heap[w.heap.size]? = some (.cells cs 30 (0, 0)) ∧ W.heap[K]? = some (.stringIter s pos) ∧ Kd.R (Kd.int .u8) 5 W w.heap.size (fun _ => True) v l
def wire_Bytes.f (k : Nat) (a0_0 : Int) (a0_1 : Int) (a0_2 : ByteArray) (a0_3 : ByteArray) (a0_4 : ByteArray) (a0_5 : ByteArray) (a0_6 : ByteArray) (a0_7 : ByteArray) (a0_8 : Int) (a0_9 : Int) (a0_10 : Int) (a0_11 : Int) (a0_12 : Int) (l0_13 : List Int) : Option (List Int × Int) :=
 (wire_Check.f k a0_0 a0_1 a0_2 a0_3 a0_4 a0_5 a0_6 a0_7 a0_8 a0_9 a0_10 a0_11 a0_12 l0_13).bind fun e => if e = 0 then
  (field_Put8.f k ([] : List Int) a0_0).bind fun b => (wire_Fields.f k a0_0).bind fun s => if okLetters s = true then
   (wire_Bytes.puts k a0_0 a0_1 a0_2 a0_3 a0_4 a0_5 a0_6 a0_7 a0_8 a0_9 a0_10 a0_11 a0_12 l0_13 s.data.toList b).bind fun r => some (r, 0) else none
 else some ([], e)
set_option maxHeartbeats 4000000 in
set_option maxRecDepth 100000 in
theorem wire_Bytes.bad (k : Nat) (a0_0 : Int) (a0_1 : Int) (a0_2 : ByteArray) (a0_3 : ByteArray) (a0_4 : ByteArray) (a0_5 : ByteArray) (a0_6 : ByteArray) (a0_7 : ByteArray) (a0_8 : Int) (a0_9 : Int) (a0_10 : Int) (a0_11 : Int) (a0_12 : Int) (A0_13 : Option Addr) (c0_13 : Nat) (l0_13 : List Int) (e : Int) (w : World) (hr0_13 : Kd.C (Kd.int .i64) w A0_13 l0_13.length l0_13) (hc0_13 : l0_13.length ≤ c0_13) (he : wire_Check.f k a0_0 a0_1 a0_2 a0_3 a0_4 a0_5 a0_6 a0_7 a0_8 a0_9 a0_10 a0_11 a0_12 l0_13 = some e) (hne : ¬ e = 0) :
  Calls Try.prog 9 #[.agg #[.int .i64 a0_0, .int .i64 a0_1, .string a0_2, .string a0_3, .string a0_4, .string a0_5, .string a0_6, .string a0_7, .int .i64 a0_8, .int .i64 a0_9, .int .i64 a0_10, .int .i64 a0_11, .int .i64 a0_12, .slice A0_13 l0_13.length c0_13]] w fun e' w' => e' = .returned (.tuple #[.slice none 0 0, .int .i64 e]) ∧ Below w.heap.size w w' := by
 have HE := Aside0.mk he
 have HR := Aside0.mk hr0_13
 have HC := Aside0.mk hc0_13
 have hn1 : (e != 0) = true := by simpa using hne
 clear he hr0_13 hc0_13 hne
 go_enter Try.func9, Try.ntmps9
 go_wp2_with fail
 refine (wire_Check.calls k a0_0 a0_1 a0_2 a0_3 a0_4 a0_5 a0_6 a0_7 a0_8 a0_9 a0_10 a0_11 a0_12 A0_13 c0_13 l0_13 e _ (Kd.C_alloc HR.out _) HC.out HE.out).mono ?_
 rintro e' w' ⟨rfl, hb⟩
 have HB := Aside0.mk (below_step (below_alloc (Below.refl w.heap.size w) _) hb)
 clear hb
 go_wp2
 go_ret2
 exact ⟨rfl, HB.out⟩
set_option maxHeartbeats 4000000 in
set_option maxRecDepth 100000 in
theorem wire_Bytes.good (k : Nat) (a0_0 : Int) (a0_1 : Int) (a0_2 : ByteArray) (a0_3 : ByteArray) (a0_4 : ByteArray) (a0_5 : ByteArray) (a0_6 : ByteArray) (a0_7 : ByteArray) (a0_8 : Int) (a0_9 : Int) (a0_10 : Int) (a0_11 : Int) (a0_12 : Int) (A0_13 : Option Addr) (c0_13 : Nat) (l0_13 : List Int) (b r : List Int) (s : ByteArray) (w : World) (hr0_13 : Kd.C (Kd.int .i64) w A0_13 l0_13.length l0_13) (hc0_13 : l0_13.length ≤ c0_13) (he : wire_Check.f k a0_0 a0_1 a0_2 a0_3 a0_4 a0_5 a0_6 a0_7 a0_8 a0_9 a0_10 a0_11 a0_12 l0_13 = some 0)
  (hb0 : field_Put8.f k ([] : List Int) a0_0 = some b) (hs : wire_Fields.f k a0_0 = some s) (hok : okLetters s = true) (hp : wire_Bytes.puts k a0_0 a0_1 a0_2 a0_3 a0_4 a0_5 a0_6 a0_7 a0_8 a0_9 a0_10 a0_11 a0_12 l0_13 s.data.toList b = some r) :
  Calls Try.prog 9 #[.agg #[.int .i64 a0_0, .int .i64 a0_1, .string a0_2, .string a0_3, .string a0_4, .string a0_5, .string a0_6, .string a0_7, .int .i64 a0_8, .int .i64 a0_9, .int .i64 a0_10, .int .i64 a0_11, .int .i64 a0_12, .slice A0_13 l0_13.length c0_13]] w fun e' w' => ∃ v0_ : Value, e' = .returned (.tuple #[v0_, .int .i64 0]) ∧ Kd.R (Kd.int .u8) 5 w' w.heap.size (fun _ => True) v0_ r ∧ Below w.heap.size w w' := by
 have HE := Aside0.mk he
 have HR := Aside0.mk hr0_13
 have HC := Aside0.mk hc0_13
 have HB0 := Aside0.mk hb0
 have HS := Aside0.mk hs
 have HOK := Aside0.mk hok
 have HP := Aside0.mk hp
 clear he hr0_13 hc0_13 hb0 hs hok hp
 go_enter Try.func9, Try.ntmps9
 go_wp2_with fail
 refine (wire_Check.calls k a0_0 a0_1 a0_2 a0_3 a0_4 a0_5 a0_6 a0_7 a0_8 a0_9 a0_10 a0_11 a0_12 A0_13 c0_13 l0_13 0 _ (Kd.C_alloc HR.out _) HC.out HE.out).mono ?_
 rintro e' w1 ⟨rfl, hb⟩
 have HB1 := Aside0.mk (below_step (below_alloc (Below.refl w.heap.size w) _) hb)
 have BK1 := Aside0.mk (blk_below (blk_new w _) hb)
 obtain ⟨g0, g1, g2, g3, g4, g5, g6, g7, g8, g9, g10, g11, g12, g13⟩ := cells14 BK1.out
 clear hb g1 g2 g3 g4 g5 g6 g7 g8 g9 g10 g11 g12 g13
 go_wp2_with fail
 refine (field_Put8.calls k (fun _ => False) (.slice none 0 0) [] a0_0 b w _ HB1.out (Kd.R_nil _ _ _ _ _) HB0.out).mono ?_
 rintro e' w2 ⟨v2, rfl, ho2, hb2, hk2⟩
 have HB2 := Aside0.mk hb2
 have BK2 := Aside0.mk (blk_kept BK1.out hk2 (fun h => h))
 have HO2 := Aside0.mk (Kd.R_mono (ok' := fun _ => True) ho2 (fun _ _ => trivial))
 clear g0 ho2 hb2 hk2 BK1 HB1
 obtain ⟨g0, g1, g2, g3, g4, g5, g6, g7, g8, g9, g10, g11, g12, g13⟩ := cells14 BK2.out
 clear g1 g2 g3 g4 g5 g6 g7 g8 g9 g10 g11 g12 g13
 go_wp2_with fail
 refine (wire_Fields.calls k a0_0 s _ HS.out).mono ?_
 rintro e' w3 ⟨rfl, ⟨nd, rfl⟩⟩
 go_wp2_with fail
 obtain ⟨K, hK⟩ : ∃ K, w2.heap.size = K := ⟨_, rfl⟩
 have hwK : w.heap.size < K := by
  have h1 := blk_lt BK2.out
  omega
 have HI := Aside0.mk (show ((w2.drewN nd).iter s 0).heap[K]? = some (.stringIter s 0) from by rw [← hK]; exact World.iter_heap (w2.drewN nd) s 0)
 have BK3 := Aside0.mk (show ((w2.drewN nd).iter s 0).heap[w.heap.size]? = some (.cells #[.int .i64 a0_0, .int .i64 a0_1, .string a0_2, .string a0_3, .string a0_4, .string a0_5, .string a0_6, .string a0_7, .int .i64 a0_8, .int .i64 a0_9, .int .i64 a0_10, .int .i64 a0_11, .int .i64 a0_12, .slice A0_13 l0_13.length c0_13] 30 (0, 0)) from blk_alloc (blk_drewN BK2.out nd) _)
 have HB3 := Aside0.mk (show Below w.heap.size w ((w2.drewN nd).iter s 0) from below_alloc (pw_below_drewN HB2.out nd) _)
 have HO3 := Aside0.mk (show Kd.R (Kd.int .u8) 5 ((w2.drewN nd).iter s 0) w.heap.size (fun _ => True) v2 b from Kd.R_alloc (Kd.R_drewN HO2.out nd) _)
 rw [hK]
 generalize (w2.drewN nd).iter s 0 = w4 at HI BK3 HB3 HO3 ⊢
 clear hK BK2 HB2 HO2 g0
 go_loopg [5, 7] s.size (fun gg u5 _ wr => ∃ (pos : Nat) (l : List Int), pos ≤ s.size ∧ s.size - pos ≤ gg ∧ wire_Bytes.Loop w wr K #[.int .i64 a0_0, .int .i64 a0_1, .string a0_2, .string a0_3, .string a0_4, .string a0_5, .string a0_6, .string a0_7, .int .i64 a0_8, .int .i64 a0_9, .int .i64 a0_10, .int .i64 a0_11, .int .i64 a0_12, .slice A0_13 l0_13.length c0_13] s pos u5 l ∧ Aside0 (wire_Bytes.puts k a0_0 a0_1 a0_2 a0_3 a0_4 a0_5 a0_6 a0_7 a0_8 a0_9 a0_10 a0_11 a0_12 l0_13 (s.data.toList.drop pos) l = some r))
 case atStart => exact ⟨0, b, Nat.zero_le _, by omega, ⟨HB3.out, BK3.out, HI.out, HO3.out⟩, HP⟩
 case round =>
  obtain ⟨pos, l, hpos, hg, hL, HPL⟩ := hrel
  obtain ⟨hB, hG, hI, hO⟩ := hL
  have HB := Aside0.mk hB
  have HG := Aside0.mk hG
  have HI2 := Aside0.mk hI
  have HO := Aside0.mk hO
  clear HI BK3 HB3 HO3 HP
  by_cases hlt : pos < s.size
  ·have hl := ok_at s HOK.out pos hlt
   have hnx : ∀ ty, (Instr.next (.pointer (some ⟨K, 0, none⟩)) true ty).run Try.prog _ = _ := fun ty => Lib.run_next_ascii_at _ K s pos ty hI hlt hl.2
   obtain ⟨l', h1, h2⟩ : ∃ l', wire_Bytes.put2 k l a0_0 a0_1 a0_2 a0_3 a0_4 a0_5 a0_6 a0_7 a0_8 a0_9 a0_10 a0_11 a0_12 l0_13 s[pos].toNat = some l' ∧ wire_Bytes.puts k a0_0 a0_1 a0_2 a0_3 a0_4 a0_5 a0_6 a0_7 a0_8 a0_9 a0_10 a0_11 a0_12 l0_13 (s.data.toList.drop (pos + 1)) l' = some r := by
    have h := HPL.out
    rw [List.drop_eq_getElem_cons (show pos < s.data.toList.length by simpa using hlt)] at h
    obtain ⟨l', h1, h2⟩ := Option.bind_eq_some_iff.mp h
    exact ⟨l', h1, h2⟩
   have H1 := Aside0.mk h1
   have H2 := Aside0.mk h2
   have hKo := iter_not_own HO.out HI2.out
   have hGo : some w.heap.size ≠ u5.ownBlock := Kd.R_ne HO.out HG.out (by decide)
   have HKO := Aside0.mk hKo
   have HGO := Aside0.mk hGo
   have HO5 := Aside0.mk (Kd.R_kept (S := fun k_ => k_ = K) (W2 := wr.iterAt K s (pos + 1)) (Kd.R_tight rfl HO.out) ⟨Nat.le_of_eq (Lib.iterAt_size _ _ _ _).symm, fun i _ hn => Lib.iterAt_other _ _ _ _ _ hn⟩ (fun k_ hk_ he => HKO.out (by rw [← he]; exact hk_)))
   have HG5 := Aside0.mk ((Lib.iterAt_other wr K w.heap.size s (pos + 1) (by omega)).trans HG.out)
   have HI5 := Aside0.mk (Lib.iterAt_heap wr K s pos (pos + 1) HI2.out)
   have HB5 := Aside0.mk (Lib.below_iterAt HB.out (show w.heap.size ≤ K by omega) s (pos + 1))
   obtain ⟨g0, g1, g2, g3, g4, g5, g6, g7, g8, g9, g10, g11, g12, g13⟩ := cells14 HG5.out
   clear hl h1 h2 hKo hGo hB hG hI hO HB HG HI2 HO HPL
   go_wp2_with fail
   refine (wire_Bytes.put2_calls k (fun k_ => some k_ = u5.ownBlock) u5 l a0_0 a0_1 a0_2 a0_3 a0_4 a0_5 a0_6 a0_7 a0_8 a0_9 a0_10 a0_11 a0_12 A0_13 c0_13 l0_13 s[pos].toNat l' w _ HB5.out HO5.out (Kd.C_kept_came (Kd.heap_int .i64) HR.out HB5.out (fun k_ hk_ => own_base (Kd.own_of_R HO5.out) k_ hk_.symm)) HC.out H1.out).mono ?_
   rintro e' w6 ⟨v6, rfl, ho6, hb6, hk6⟩
   have HB6 := Aside0.mk hb6
   have HO6 := Aside0.mk (Kd.R_mono (ok' := fun _ => True) ho6 (fun _ _ => trivial))
   have HG6 := Aside0.mk (blk_kept HG5.out hk6 HGO.out)
   have HI6 := Aside0.mk (blk_kept HI5.out hk6 HKO.out)
   clear ho6 hb6 hk6 hnx HO5 HG5 HI5 HB5 g0 g1 g2 g3 g4 g5 g6 g7 g8 g9 g10 g11 g12 g13
   go_wp2
   go_roundg (s.size - (pos + 1))
   case measure => omega
   case rel => exact ⟨pos + 1, l', by omega, by omega, ⟨HB6.out, HG6.out, HI6.out, HO6.out⟩, H2⟩
  ·have : pos = s.size := by omega
   subst this
   have hnx : ∀ ty, (Instr.next (.pointer (some ⟨K, 0, none⟩)) true ty).run Try.prog _ = _ := fun ty => Lib.run_next_end_at _ K s s.size ty hI hlt
   have hr : l = r := by
    have h := HPL.out
    rw [List.drop_eq_nil_of_le (by simp)] at h
    exact Option.some.inj h
   subst hr
   clear hB hG hI hO hpos hg hlt
   go_wp2
   go_ret2
   exact ⟨_, rfl, HO.out, HB.out⟩
theorem wire_Bytes.calls (k : Nat) (a0_0 : Int) (a0_1 : Int) (a0_2 : ByteArray) (a0_3 : ByteArray) (a0_4 : ByteArray) (a0_5 : ByteArray) (a0_6 : ByteArray) (a0_7 : ByteArray) (a0_8 : Int) (a0_9 : Int) (a0_10 : Int) (a0_11 : Int) (a0_12 : Int) (A0_13 : Option Addr) (c0_13 : Nat) (l0_13 : List Int) (r1 : List Int) (r2 : Int) (w : World) (hr0_13 : Kd.C (Kd.int .i64) w A0_13 l0_13.length l0_13) (hc0_13 : l0_13.length ≤ c0_13) (h : wire_Bytes.f k a0_0 a0_1 a0_2 a0_3 a0_4 a0_5 a0_6 a0_7 a0_8 a0_9 a0_10 a0_11 a0_12 l0_13 = some (r1, r2)) :
  Calls Try.prog 9 #[.agg #[.int .i64 a0_0, .int .i64 a0_1, .string a0_2, .string a0_3, .string a0_4, .string a0_5, .string a0_6, .string a0_7, .int .i64 a0_8, .int .i64 a0_9, .int .i64 a0_10, .int .i64 a0_11, .int .i64 a0_12, .slice A0_13 l0_13.length c0_13]] w fun e' w' => ∃ v0_ : Value, e' = .returned (.tuple #[v0_, .int .i64 r2]) ∧ Kd.R (Kd.int .u8) 5 w' w.heap.size (fun _ => True) v0_ r1 ∧ Below w.heap.size w w' := by
 unfold wire_Bytes.f at h
 obtain ⟨e, he, h⟩ := Option.bind_eq_some_iff.mp h
 by_cases h0 : e = 0
 ·subst h0
  rw [if_pos rfl] at h
  obtain ⟨b, hb, h⟩ := Option.bind_eq_some_iff.mp h
  obtain ⟨s, hs, h⟩ := Option.bind_eq_some_iff.mp h
  by_cases hok : okLetters s = true
  ·rw [if_pos hok] at h
   obtain ⟨r, hr, h⟩ := Option.bind_eq_some_iff.mp h
   simp only [Option.some.injEq, Prod.mk.injEq] at h
   obtain ⟨rfl, rfl⟩ := h
   exact wire_Bytes.good k a0_0 a0_1 a0_2 a0_3 a0_4 a0_5 a0_6 a0_7 a0_8 a0_9 a0_10 a0_11 a0_12 A0_13 c0_13 l0_13 b r s w hr0_13 hc0_13 he hb hs hok hr
  ·rw [if_neg hok] at h
   cases h
 ·rw [if_neg h0] at h
  simp only [Option.some.injEq, Prod.mk.injEq] at h
  obtain ⟨rfl, rfl⟩ := h
  refine (wire_Bytes.bad k a0_0 a0_1 a0_2 a0_3 a0_4 a0_5 a0_6 a0_7 a0_8 a0_9 a0_10 a0_11 a0_12 A0_13 c0_13 l0_13 e w hr0_13 hc0_13 he h0).mono ?_
  rintro e' w' ⟨rfl, hb⟩
  exact ⟨_, rfl, Kd.R_nil _ _ _ _ _, hb⟩
end Go.Proofs.Ytmdgdndidfcapaa.QB
