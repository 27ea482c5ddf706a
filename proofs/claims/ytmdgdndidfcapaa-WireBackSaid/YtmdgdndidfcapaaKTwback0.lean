import Derived.Test.YtmdgdndidfcapaaKTwra4
import Derived.Test.YtmdgdndidfcapaaKQBx12
namespace Go.Proofs.Ytmdgdndidfcapaa.QB
open Go.RowKit Go.Proofs.YtmdgdndidfcapaaW.PrintWords Go.Proofs.YtmdgdndidfcapaaW.PrintLast Go.Proofs.YtmdgdndidfcapaaW.PrintMore
attribute [local go_sem] max2_int min2_int max_two min_two max_three min_three max_four min_four
set_option linter.unusedVariables false
set_option linter.unusedSimpArgs false
theorem ambrylaw24_lives.b1 : wire_Bytes.f 300 4 2 ⟨#[]⟩ ⟨#[]⟩ ⟨#[]⟩ ⟨#[]⟩ ⟨#[]⟩ ⟨#[]⟩ 0 0 0 0 0 [] = some ([4, 2], 0) := by kernel_rfl
theorem ambrylaw24_lives.b2 : wire_Bytes.f 300 12 0 ⟨#[97, 98, 99]⟩ ⟨#[107]⟩ ⟨#[]⟩ ⟨#[]⟩ ⟨#[]⟩ ⟨#[]⟩ 0 0 0 0 0 [] = some ([12, 0, 3, 97, 98, 99, 1, 107, 0], 0) := by kernel_rfl
theorem ambrylaw24_lives.b3 : wire_Read.f 300 [0] = some (0, 0, ⟨#[]⟩, ⟨#[]⟩, ⟨#[]⟩, ⟨#[]⟩, ⟨#[]⟩, ⟨#[]⟩, 0, 0, 0, 0, 0, [], 4) := by kernel_rfl
def ambrylaw24_lives.ans : List Int := [20, 0, 0, 0, 0, 0, 0, 0, 0, 0, 0, 0, 0, 0, 0, 0, 0, 0, 0, 0, 1, 97, 0, 0, 0, 0, 0, 0, 0, 0, 0, 0, 0, 0, 0, 0, 0, 0, 0, 0, 0, 0, 0, 0, 0, 0, 0, 0, 0, 0, 0, 0, 0, 0, 0, 0, 0, 0, 0, 0, 0, 0, 0, 0, 0, 0, 0, 0, 0, 0, 0, 0, 0, 0, 0, 0, 0, 0, 0]
theorem ambrylaw24_lives.b4 : wire_Answer.f 300 20 0 0 ⟨#[97]⟩ 0 0 ⟨#[]⟩ 0 0 0 false false ⟨#[]⟩ [] [] [] ⟨#[]⟩ false [] ⟨#[]⟩ 0 false [] [] = some (ambrylaw24_lives.ans, 0) := by kernel_rfl
theorem ambrylaw24_lives.b5 : wire_ReadAnswer.f 300 ambrylaw24_lives.ans = some (20, 0, 0, ⟨#[97]⟩, 0, 0, ⟨#[]⟩, 0, 0, 0, false, false, ⟨#[]⟩, [], [], [], ⟨#[]⟩, false, [], ⟨#[]⟩, 0, false, [], [], 0) := by kernel_rfl
theorem ambrylaw24_lives.s1 : (strOfNums [4, 2] : ByteArray) = ⟨#[4, 2]⟩ := by kernel_rfl
theorem ambrylaw24_lives.s2 : (strOfNums [12, 0, 3, 97, 98, 99, 1, 107, 0] : ByteArray) = ⟨#[12, 0, 3, 97, 98, 99, 1, 107, 0]⟩ := by kernel_rfl
theorem ambrylaw24_lives.after {ok1 ok2 : Nat → Prop} (w w6 w7 : World) (v1 v2 : Value) (b1 : Nat) (B13 : Option Addr) (d13 : Nat) (B14 : Option Addr) (d14 : Nat) (B15 : Option Addr) (d15 : Nat) (B18 : Option Addr) (d18 : Nat) (B22 : Option Addr) (d22 : Nat) (B23 : Option Addr) (d23 : Nat) (ho1 : Kd.R (Kd.int .u8) 5 w6 w.heap.size ok1 v1 [4, 2]) (ho2 : Kd.R (Kd.int .u8) 5 w6 b1 ok2 v2 [12, 0, 3, 97, 98, 99, 1, 107, 0]) (hb : Below w.heap.size w w6) (hX : w7.heap[w6.heap.size]? = some (.cells #[.int .i64 20, .int .i64 0, .int .i64 0, .string ⟨#[97]⟩, .int .i64 0, .int .i64 0, .string ⟨#[]⟩, .int .i64 0, .int .i64 0, .int .i64 0, .bool false, .bool false, .string ⟨#[]⟩, .slice B13 0 d13, .slice B14 0 d14, .slice B15 0 d15, .string ⟨#[]⟩, .bool false, .slice B18 0 d18, .string ⟨#[]⟩, .int .i64 0, .bool false, .slice B22 0 d22, .slice B23 0 d23] 54 (0, 0))) (hg : (w6.alloc (.cells #[.int .i64 0, .int .i64 0, .int .i64 0, .string ⟨#[]⟩, .int .i64 0, .int .i64 0, .string ⟨#[]⟩, .int .i64 0, .int .i64 0, .int .i64 0, .bool false, .bool false, .string ⟨#[]⟩, .slice none 0 0, .slice none 0 0, .slice none 0 0, .string ⟨#[]⟩, .bool false, .slice none 0 0, .string ⟨#[]⟩, .int .i64 0, .bool false, .slice none 0 0, .slice none 0 0] 54)).grownBy w7 (some w6.heap.size)) :
  Aside0 (Below w.heap.size w w7) ∧ (convert 31 9 v1).run Try.prog w7 = .ok (.string ⟨#[4, 2]⟩) w7 ∧ (convert 31 9 v2).run Try.prog w7 = .ok (.string ⟨#[12, 0, 3, 97, 98, 99, 1, 107, 0]⟩) w7 ∧ w7.cell? ⟨w6.heap.size, 0, none⟩ = some (.int .i64 20) ∧ w7.cell? ⟨w6.heap.size, 3, none⟩ = some (.string ⟨#[97]⟩) := by
 have hN := blk_new w6 (.cells #[.int .i64 0, .int .i64 0, .int .i64 0, .string ⟨#[]⟩, .int .i64 0, .int .i64 0, .string ⟨#[]⟩, .int .i64 0, .int .i64 0, .int .i64 0, .bool false, .bool false, .string ⟨#[]⟩, .slice none 0 0, .slice none 0 0, .slice none 0 0, .string ⟨#[]⟩, .bool false, .slice none 0 0, .string ⟨#[]⟩, .int .i64 0, .bool false, .slice none 0 0, .slice none 0 0] 54)
 have a1 := Kd.R_alloc ho1 (.cells #[.int .i64 0, .int .i64 0, .int .i64 0, .string ⟨#[]⟩, .int .i64 0, .int .i64 0, .string ⟨#[]⟩, .int .i64 0, .int .i64 0, .int .i64 0, .bool false, .bool false, .string ⟨#[]⟩, .slice none 0 0, .slice none 0 0, .slice none 0 0, .string ⟨#[]⟩, .bool false, .slice none 0 0, .string ⟨#[]⟩, .int .i64 0, .bool false, .slice none 0 0, .slice none 0 0] 54)
 have a2 := Kd.R_alloc ho2 (.cells #[.int .i64 0, .int .i64 0, .int .i64 0, .string ⟨#[]⟩, .int .i64 0, .int .i64 0, .string ⟨#[]⟩, .int .i64 0, .int .i64 0, .int .i64 0, .bool false, .bool false, .string ⟨#[]⟩, .slice none 0 0, .slice none 0 0, .slice none 0 0, .string ⟨#[]⟩, .bool false, .slice none 0 0, .string ⟨#[]⟩, .int .i64 0, .bool false, .slice none 0 0, .slice none 0 0] 54)
 have hr1 := Kd.R_grown2 a1 rfl hg (fun k hk e => by injection hk with hk; rw [← hk] at e; exact (Kd.R_ne a1 hN (by decide)) e)
 have hr2 := Kd.R_grown2 a2 rfl hg (fun k hk e => by injection hk with hk; rw [← hk] at e; exact (Kd.R_ne a2 hN (by decide)) e)
 have hb2 := below_alloc hb (.cells #[.int .i64 0, .int .i64 0, .int .i64 0, .string ⟨#[]⟩, .int .i64 0, .int .i64 0, .string ⟨#[]⟩, .int .i64 0, .int .i64 0, .int .i64 0, .bool false, .bool false, .string ⟨#[]⟩, .slice none 0 0, .slice none 0 0, .slice none 0 0, .string ⟨#[]⟩, .bool false, .slice none 0 0, .string ⟨#[]⟩, .int .i64 0, .bool false, .slice none 0 0, .slice none 0 0] 54)
 have h1 : (convert 31 9 v1).run Try.prog w7 = .ok (.string (strOfNums [4, 2])) w7 := own_string Try.underlying31 Try.underlying5 Try.underlying9 (Kd.own_of_R hr1)
 have h2 : (convert 31 9 v2).run Try.prog w7 = .ok (.string (strOfNums [12, 0, 3, 97, 98, 99, 1, 107, 0])) w7 := own_string Try.underlying31 Try.underlying5 Try.underlying9 (Kd.own_of_R hr2)
 rw [ambrylaw24_lives.s1] at h1
 rw [ambrylaw24_lives.s2] at h2
 exact ⟨⟨hb2.grown hg hb2.size (fun k hk => by injection hk with hk; have := hb.size; omega)⟩, h1, h2, (blk_cell hX 0).trans rfl, (blk_cell hX 3).trans rfl⟩
set_option maxHeartbeats 4000000 in
set_option maxRecDepth 100000 in
theorem ambrylaw24_lives.holds (w : World) : Calls Try.prog 8 #[] w fun e w' => e = .returned (.bool true) ∧ Below w.heap.size w w' := by
 go_enter Try.func8, Try.ntmps8
 go_wp2_with fail
 refine (wire_Bytes.calls 300 4 2 ⟨#[]⟩ ⟨#[]⟩ ⟨#[]⟩ ⟨#[]⟩ ⟨#[]⟩ ⟨#[]⟩ 0 0 0 0 0 none 0 [] _ _ _ (Kd.C_nil _ _) (Nat.le_refl _) ambrylaw24_lives.b1).mono ?_
 rintro e w1 ⟨v1, rfl, ho1, hb1⟩
 have HO1 := Aside0.mk ho1
 have HB1 := Aside0.mk hb1
 clear ho1 hb1
 go_wp2_with fail
 refine (wire_Bytes.calls 300 12 0 ⟨#[97, 98, 99]⟩ ⟨#[107]⟩ ⟨#[]⟩ ⟨#[]⟩ ⟨#[]⟩ ⟨#[]⟩ 0 0 0 0 0 none 0 [] _ _ _ (Kd.C_nil _ _) (Nat.le_refl _) ambrylaw24_lives.b2).mono ?_
 rintro e w2 ⟨v2, rfl, ho2, hb2⟩
 have HO2 := Aside0.mk ho2
 have HO1_ := Aside0.mk (Kd.R_below HO1.out hb2)
 have HB2 := Aside0.mk (below_step HB1.out hb2)
 clear ho2 hb2 HO1 HB1
 go_wp2_with ((with_reducible refine gate_dst (N := 22) rfl ?_); refine Kd.R_lit (Kd.int .u8) _ 5 ?hg (N := 22) ?hd (xs := ([0] : List Int)) (inner := [.int .u8 0]) (ok := fun _ => True) (okp := fun _ => True) ?hr ?hp (fun _ hk => hk) trivial (Below.refl _ _) (Nat.le_refl _) (by simp) ?_; (case hd => rfl); (case hg => rfl); (case hr => first | (go_simp; done) | (go_simp; rfl)); (case hp => exact (Reps.one (show Kd.M (Kd.int .u8) _ _ _ 0 [.int .u8 0] from rfl) (Reps.none _ _))); intro v3 w3 ho3 hb3 hg3 hn3; clear hg3 hn3; have HO1 := Aside0.mk (Kd.R_elder' HO1_.out (Kd.R_base ho3) hb3); have HO2_ := Aside0.mk (Kd.R_elder' HO2.out (Kd.R_base ho3) hb3); have HB3 := Aside0.mk (below_step HB2.out hb3); have HO3 := Aside0.mk ho3; clear hb3 ho3 HO1_ HO2 HB2; obtain ⟨A3, c3, e3⟩ := Kd.R_slice HO3.out; subst e3)
 refine (wire_Read.calls 300 _ _ [0] 0 0 ⟨#[]⟩ ⟨#[]⟩ ⟨#[]⟩ ⟨#[]⟩ ⟨#[]⟩ ⟨#[]⟩ 0 0 0 0 0 [] 4 _ (Kd.R_reads' HO3.out).2.2 (Kd.R_reads' HO3.out).2.1 ambrylaw24_lives.b3).mono ?_
 rintro e w4 ⟨v4, rfl, ho4, hb4⟩
 obtain ⟨A4, c4, e4⟩ := Kd.R_slice ho4
 subst e4
 have HO1_ := Aside0.mk (Kd.R_below HO1.out hb4)
 have HO2 := Aside0.mk (Kd.R_below HO2_.out hb4)
 have HB4 := Aside0.mk (below_step HB3.out hb4)
 clear ho4 hb4 HO1 HB3 HO2_ HO3
 go_wp2_with fail
 refine (wire_Answer.calls 300 20 0 0 ⟨#[97]⟩ 0 0 ⟨#[]⟩ 0 0 0 false false ⟨#[]⟩ none 0 [] none 0 [] none 0 [] ⟨#[]⟩ false none 0 [] ⟨#[]⟩ 0 false none 0 [] none 0 [] ambrylaw24_lives.ans 0 _ (Kd.C_nil _ _) (Nat.le_refl _) (Kd.C_nil _ _) (Nat.le_refl _) (Kd.C_nil _ _) (Nat.le_refl _) (Kd.C_nil _ _) (Nat.le_refl _) (Kd.C_nil _ _) (Nat.le_refl _) (Kd.C_nil _ _) (Nat.le_refl _) ambrylaw24_lives.b4).mono ?_
 rintro e w5 ⟨v5, rfl, ho5, hb5⟩
 have HO1 := Aside0.mk (Kd.R_below (Kd.R_alloc HO1_.out _) hb5)
 have HO2_ := Aside0.mk (Kd.R_below (Kd.R_alloc HO2.out _) hb5)
 have HB5 := Aside0.mk (below_step (below_alloc HB4.out _) hb5)
 have HO5 := Aside0.mk ho5
 clear ho5 hb5 HB4 HO1_ HO2
 obtain ⟨A5, c5, e5⟩ := Kd.R_slice HO5.out
 subst e5
 go_wp2_with fail
 refine (wire_ReadAnswer.calls 300 _ _ ambrylaw24_lives.ans 20 0 0 ⟨#[97]⟩ 0 0 ⟨#[]⟩ 0 0 0 false false ⟨#[]⟩ [] [] [] ⟨#[]⟩ false [] ⟨#[]⟩ 0 false [] [] 0 _ (Kd.R_reads' HO5.out).2.2 (Kd.R_reads' HO5.out).2.1 ambrylaw24_lives.b5).mono ?_
 rintro e w6 ⟨v13, v14, v15, v18, v22, v23, rfl, q13, q14, q15, q18, q22, q23, hb6⟩
 obtain ⟨B13, d13, ev_⟩ := Kd.R_slice q13
 subst ev_
 obtain ⟨B14, d14, ev_⟩ := Kd.R_slice q14
 subst ev_
 obtain ⟨B15, d15, ev_⟩ := Kd.R_slice q15
 subst ev_
 obtain ⟨B18, d18, ev_⟩ := Kd.R_slice q18
 subst ev_
 obtain ⟨B22, d22, ev_⟩ := Kd.R_slice q22
 subst ev_
 obtain ⟨B23, d23, ev_⟩ := Kd.R_slice q23
 subst ev_
 clear q13 q14 q15 q18 q22 q23
 have HO1_ := Aside0.mk (Kd.R_below HO1.out hb6)
 have HO2 := Aside0.mk (Kd.R_below HO2_.out hb6)
 have HO5_ := Aside0.mk (Kd.R_below HO5.out hb6)
 have HB6 := Aside0.mk (below_step HB5.out hb6)
 clear HB5 HO1 HO2_ HO5 hb6
 go_wp2_with ((with_reducible refine gate_store (t := 54) (p := 9) (v := .tmp 34) rfl ?_); refine store_ev (F := fun w1 => w1.heap[w6.heap.size]? = some (.cells #[.int .i64 20, .int .i64 0, .int .i64 0, .string ⟨#[97]⟩, .int .i64 0, .int .i64 0, .string ⟨#[]⟩, .int .i64 0, .int .i64 0, .int .i64 0, .bool false, .bool false, .string ⟨#[]⟩, .slice B13 0 d13, .slice B14 0 d14, .slice B15 0 d15, .string ⟨#[]⟩, .bool false, .slice B18 0 d18, .string ⟨#[]⟩, .int .i64 0, .bool false, .slice B22 0 d22, .slice B23 0 d23] 54 (0, 0)) ∧ World.grownBy _ w1 (some w6.heap.size)) rfl rfl (store_step (cs2 := #[.int .i64 20, .int .i64 0, .int .i64 0, .string ⟨#[97]⟩, .int .i64 0, .int .i64 0, .string ⟨#[]⟩, .int .i64 0, .int .i64 0, .int .i64 0, .bool false, .bool false, .string ⟨#[]⟩, .slice B13 0 d13, .slice B14 0 d14, .slice B15 0 d15, .string ⟨#[]⟩, .bool false, .slice B18 0 d18, .string ⟨#[]⟩, .int .i64 0, .bool false, .slice B22 0 d22, .slice B23 0 d23]) [.int .i64 20, .int .i64 0, .int .i64 0, .string ⟨#[97]⟩, .int .i64 0, .int .i64 0, .string ⟨#[]⟩, .int .i64 0, .int .i64 0, .int .i64 0, .bool false, .bool false, .string ⟨#[]⟩, .slice B13 0 d13, .slice B14 0 d14, .slice B15 0 d15, .string ⟨#[]⟩, .bool false, .slice B18 0 d18, .string ⟨#[]⟩, .int .i64 0, .bool false, .slice B22 0 d22, .slice B23 0 d23] rfl rfl rfl rfl Try.sizeOf54 rfl (Nat.le_of_ble_eq_true rfl) (blk_new w6 _) (by kernel_rfl)) ?_)
 rintro w7 ⟨hX, hg⟩
 have HAF := ambrylaw24_lives.after w w6 w7 v1 v2 _ B13 d13 B14 d14 B15 d15 B18 d18 B22 d22 B23 d23 HO1_.out HO2.out HB6.out hX hg
 obtain ⟨HB7, hcv1, hcv2, c0, c3⟩ := HAF
 clear hX hg HO1_ HO2 HO5_ HB6
 have hln : ambrylaw24_lives.ans.length = 79 := by kernel_rfl
 go_wp2_with fail
 exact bodyPost_ret (v := .bool true) (by simp [results, Try.results8, go_sem]) rfl ⟨rfl, HB7.out⟩
set_option maxHeartbeats 4000000 in
set_option maxRecDepth 100000 in
theorem ambryref24_Same.eq (kd : Int) (ses : Int) (bu : ByteArray) (ob : ByteArray) (ve : ByteArray) (pr : ByteArray) (de : ByteArray) (bo : ByteArray) (ck : Int) (re : Int) (im : Int) (id : Int) (n : Int) (A1 : Option Addr) (c1 : Nat) (A2 : Option Addr) (c2 : Nat) (pa : List Int) (w : World) (hr1 : Kd.C (Kd.int .i64) w A1 pa.length pa) (hr2 : Kd.C (Kd.int .i64) w A2 pa.length pa) (hlen : pa.length ≤ 140737488355328) :
  Calls Try.prog 11 #[.agg #[.int .i64 kd, .int .i64 ses, .string bu, .string ob, .string ve, .string pr, .string de, .string bo, .int .i64 ck, .int .i64 re, .int .i64 im, .int .i64 id, .int .i64 n, .slice A1 pa.length c1], .agg #[.int .i64 kd, .int .i64 ses, .string bu, .string ob, .string ve, .string pr, .string de, .string bo, .int .i64 ck, .int .i64 re, .int .i64 im, .int .i64 id, .int .i64 n, .slice A2 pa.length c2]] w fun e w' => e = .returned (.bool true) ∧ Below w.heap.size w w' := by
 have HR1 := Aside0.mk hr1
 have HR2 := Aside0.mk hr2
 have HLEN := Aside0.mk hlen
 clear hr1 hr2 hlen
 go_enter Try.func11, Try.ntmps11
 go_wp2_with (first | ((with_reducible refine gate_dst (N := 2) rfl ?_); refine box_event ?hg (N := 2) ?hd (cs := #[.int .i64 kd, .int .i64 ses, .string bu, .string ob, .string ve, .string pr, .string de, .string bo, .int .i64 ck, .int .i64 re, .int .i64 im, .int .i64 id, .int .i64 n, .slice A1 pa.length c1]) (t := 30) ?hr ?_; (case hd => rfl); (case hg => rfl); (case hr => first | (go_simp; done) | (go_simp; rfl)); intro g1 hg w1 hbox hb; have KX := Aside0.mk hbox; have KB := Aside0.mk hb; clear hbox hb hg) | ((with_reducible refine gate_dst (N := 3) rfl ?_); refine box_event ?hg (N := 3) ?hd (cs := #[.int .i64 kd, .int .i64 ses, .string bu, .string ob, .string ve, .string pr, .string de, .string bo, .int .i64 ck, .int .i64 re, .int .i64 im, .int .i64 id, .int .i64 n, .slice A2 pa.length c2]) (t := 30) ?hr ?_; (case hd => rfl); (case hg => rfl); (case hr => first | (go_simp; done) | (go_simp; rfl)); intro g2 hg w2 hbox hb; have HX := Aside0.mk (blk_below KX.out hb); have HY := Aside0.mk hbox; have HB := Aside0.mk (below_step KB.out hb); clear hbox hb hg KX KB; have a13 : w2.cell? ⟨g1, 13, none⟩ = some (.slice A1 pa.length c1) := (blk_cell HX.out 13).trans rfl; have b13 : w2.cell? ⟨g2, 13, none⟩ = some (.slice A2 pa.length c2) := (blk_cell HY.out 13).trans rfl))
 go_loopg [5] pa.length (fun gg v5 wr => ∃ i : Int, v5 = .int .i64 i ∧ 0 ≤ i ∧ i ≤ pa.length ∧ pa.length - i.toNat ≤ gg ∧ wr.heap[g1]? = some (.cells #[.int .i64 kd, .int .i64 ses, .string bu, .string ob, .string ve, .string pr, .string de, .string bo, .int .i64 ck, .int .i64 re, .int .i64 im, .int .i64 id, .int .i64 n, .slice A1 pa.length c1] 30 (0, 0)) ∧ wr.heap[g2]? = some (.cells #[.int .i64 kd, .int .i64 ses, .string bu, .string ob, .string ve, .string pr, .string de, .string bo, .int .i64 ck, .int .i64 re, .int .i64 im, .int .i64 id, .int .i64 n, .slice A2 pa.length c2] 30 (0, 0)) ∧ Below w.heap.size w wr)
 case atStart => exact ⟨0, rfl, by omega, by omega, by omega, HX.out, HY.out, HB.out⟩
 case round =>
  obtain ⟨i, rfl, h0, hi, hg, hx, hy, hb⟩ := hrel
  have HX2 := Aside0.mk hx
  have HY2 := Aside0.mk hy
  have HB2 := Aside0.mk hb
  clear hx hy hb HX HY HB
  by_cases hlt : i < (pa.length : Int)
  ·have h1 := HR1.out
   obtain ⟨ad1, e1, x1⟩ := Kd.at_int HR1.out i h0 hlt
   obtain ⟨ad2, e2, x2⟩ := Kd.at_int HR2.out i h0 hlt
   cases e1
   cases e2
   clear h1
   replace x1 := (HB2.out.cell (World.block_lt_of_cell? w _ x1)).trans x1
   replace x2 := (HB2.out.cell (World.block_lt_of_cell? w _ x2)).trans x2
   have a13 : wr.cell? ⟨g1, 13, none⟩ = some (.slice (some ad1) pa.length c1) := (blk_cell HX2.out 13).trans rfl
   have b13 : wr.cell? ⟨g2, 13, none⟩ = some (.slice (some ad2) pa.length c2) := (blk_cell HY2.out 13).trans rfl
   have q0 : decide (i < (pa.length : Int)) = true := decide_eq_true hlt
   have q1 : decide (0 ≤ i) = true := decide_eq_true h0
   have HLT := Aside0.mk (show 0 ≤ i ∧ i < pa.length from ⟨h0, hlt⟩)
   replace h0 := eq_true h0
   replace hlt := eq_true hlt
   have q2 : (rd pa i != rd pa i) = false := by simp
   go_wp2
   repeat (go_quiet (fail); try go_wp2)
   go_roundg (pa.length - (i + 1).toNat)
   case measure => have := HLT.out; omega
   case rel => exact ⟨i + 1, by rw [show wrap64 (i + 1) = i + 1 by have := HLT.out; have := HLEN.out; unfold wrap64; omega], by have := HLT.out; omega, by have := HLT.out; omega, Nat.le_refl _, by (with_reducible repeat (first | refine blk_drewN ?_ _ | refine blk_drew ?_)); exact HX2.out, by (with_reducible repeat (first | refine blk_drewN ?_ _ | refine blk_drew ?_)); exact HY2.out, by (with_reducible repeat (first | apply pw_below_drewN | apply below_drew1)); exact HB2.out⟩
  ·have q0 : decide (i < (pa.length : Int)) = false := decide_eq_false hlt
   have a0 : wr.cell? ⟨g1, 0, none⟩ = some (.int .i64 kd) := (blk_cell HX2.out 0).trans rfl
   have b0 : wr.cell? ⟨g2, 0, none⟩ = some (.int .i64 kd) := (blk_cell HY2.out 0).trans rfl
   have a1 : wr.cell? ⟨g1, 1, none⟩ = some (.int .i64 ses) := (blk_cell HX2.out 1).trans rfl
   have b1 : wr.cell? ⟨g2, 1, none⟩ = some (.int .i64 ses) := (blk_cell HY2.out 1).trans rfl
   have a2 : wr.cell? ⟨g1, 2, none⟩ = some (.string bu) := (blk_cell HX2.out 2).trans rfl
   have b2 : wr.cell? ⟨g2, 2, none⟩ = some (.string bu) := (blk_cell HY2.out 2).trans rfl
   have a3 : wr.cell? ⟨g1, 3, none⟩ = some (.string ob) := (blk_cell HX2.out 3).trans rfl
   have b3 : wr.cell? ⟨g2, 3, none⟩ = some (.string ob) := (blk_cell HY2.out 3).trans rfl
   have a4 : wr.cell? ⟨g1, 4, none⟩ = some (.string ve) := (blk_cell HX2.out 4).trans rfl
   have b4 : wr.cell? ⟨g2, 4, none⟩ = some (.string ve) := (blk_cell HY2.out 4).trans rfl
   have a5 : wr.cell? ⟨g1, 5, none⟩ = some (.string pr) := (blk_cell HX2.out 5).trans rfl
   have b5 : wr.cell? ⟨g2, 5, none⟩ = some (.string pr) := (blk_cell HY2.out 5).trans rfl
   have a6 : wr.cell? ⟨g1, 6, none⟩ = some (.string de) := (blk_cell HX2.out 6).trans rfl
   have b6 : wr.cell? ⟨g2, 6, none⟩ = some (.string de) := (blk_cell HY2.out 6).trans rfl
   have a7 : wr.cell? ⟨g1, 7, none⟩ = some (.string bo) := (blk_cell HX2.out 7).trans rfl
   have b7 : wr.cell? ⟨g2, 7, none⟩ = some (.string bo) := (blk_cell HY2.out 7).trans rfl
   have a8 : wr.cell? ⟨g1, 8, none⟩ = some (.int .i64 ck) := (blk_cell HX2.out 8).trans rfl
   have b8 : wr.cell? ⟨g2, 8, none⟩ = some (.int .i64 ck) := (blk_cell HY2.out 8).trans rfl
   have a9 : wr.cell? ⟨g1, 9, none⟩ = some (.int .i64 re) := (blk_cell HX2.out 9).trans rfl
   have b9 : wr.cell? ⟨g2, 9, none⟩ = some (.int .i64 re) := (blk_cell HY2.out 9).trans rfl
   have a10 : wr.cell? ⟨g1, 10, none⟩ = some (.int .i64 im) := (blk_cell HX2.out 10).trans rfl
   have b10 : wr.cell? ⟨g2, 10, none⟩ = some (.int .i64 im) := (blk_cell HY2.out 10).trans rfl
   have a11 : wr.cell? ⟨g1, 11, none⟩ = some (.int .i64 id) := (blk_cell HX2.out 11).trans rfl
   have b11 : wr.cell? ⟨g2, 11, none⟩ = some (.int .i64 id) := (blk_cell HY2.out 11).trans rfl
   have a12 : wr.cell? ⟨g1, 12, none⟩ = some (.int .i64 n) := (blk_cell HX2.out 12).trans rfl
   have b12 : wr.cell? ⟨g2, 12, none⟩ = some (.int .i64 n) := (blk_cell HY2.out 12).trans rfl
   have a13 : wr.cell? ⟨g1, 13, none⟩ = some (.slice A1 pa.length c1) := (blk_cell HX2.out 13).trans rfl
   have b13 : wr.cell? ⟨g2, 13, none⟩ = some (.slice A2 pa.length c2) := (blk_cell HY2.out 13).trans rfl
   go_wp2
   exact bodyPost_ret (v := .bool true) (by simp [results, Try.results11, go_sem]) rfl ⟨rfl, HB2.out⟩
end Go.Proofs.Ytmdgdndidfcapaa.QB
