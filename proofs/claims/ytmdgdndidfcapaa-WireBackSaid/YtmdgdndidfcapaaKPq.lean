import Derived.Test.YtmdgdndidfcapaaKBe
import Derived.Test.YtmdgdndidfcapaaKQBx12
import Derived.Test.YtmdgdndidfcapaaKQBx13
namespace Go.Proofs.Ytmdgdndidfcapaa.Pq
open Go.RowKit Go.Proofs.Ytmdgdndidfcapaa.QB Go.Proofs.Ytmdgdndidfcapaa.Be Go.Proofs.YtmdgdndidfcapaaW.PrintWords Go.Proofs.YtmdgdndidfcapaaW.PrintLast Go.Proofs.YtmdgdndidfcapaaW.PrintMore
set_option linter.unusedVariables false
set_option linter.unusedSimpArgs false
def Bytes (l : List Int) : Prop := ∀ x ∈ l, 0 ≤ x ∧ x ≤ 255
theorem Bytes.app {a b : List Int} (ha : Bytes a) (hb : Bytes b) : Bytes (a ++ b) := fun x hx => by
 rcases List.mem_append.1 hx with h | h
 ·exact ha x h
 ·exact hb x h
theorem bytesOf_range (s : ByteArray) : Bytes (bytesOf s) := by
 intro x hx
 simp only [bytesOf, List.mem_map] at hx
 obtain ⟨b, _, rfl⟩ := hx
 have := b.toNat_lt
 omega
theorem bytesOf_strOfNums {l : List Int} (h : Bytes l) : bytesOf (strOfNums l) = l := by
 unfold strOfNums bytesOf
 simp only [List.map_map]
 have : ∀ x ∈ l, ((fun b : UInt8 => (b.toNat : Int)) ∘ fun n : Int => UInt8.ofNat n.toNat) x = id x := by
  intro x hx
  have := h x hx
  simp only [Function.comp, id, UInt8.toNat_ofNat']
  omega
 rw [List.map_congr_left this, List.map_id]
theorem size_strOfNums (l : List Int) : (strOfNums l).size = l.length := by simp [strOfNums, ByteArray.size]
theorem num_shift (l : List Int) : ∀ acc : Int, l.foldl (fun n c => n * 256 + c) acc = acc * 256 ^ l.length + Rd.num l := by
 induction l with
 | nil => intro acc; simp [Rd.num]
 | cons c l ih =>
  intro acc
  unfold Rd.num
  rw [List.foldl_cons, List.foldl_cons, ih, ih, List.length_cons, Int.pow_succ, Int.zero_mul, Int.zero_add, Int.add_mul, Int.mul_assoc, Int.mul_comm 256, Int.add_assoc]
theorem num_cons (c : Int) (l : List Int) : Rd.num (c :: l) = c * 256 ^ l.length + Rd.num l := by
 have := num_shift l c
 unfold Rd.num
 rw [List.foldl_cons, Int.zero_mul, Int.zero_add]
 exact this
theorem num_be (n : Nat) (x : Int) : Rd.num (be n x) = x % 256 ^ n := by
 induction n with
 | zero => simp [be, Rd.num]
 | succ n ih =>
  rw [be, num_cons, be_length, ih, Int.pow_succ]
  have hp : (0 : Int) < 256 ^ n := Int.pow_pos (by omega)
  have h1 := Int.emod_add_mul_ediv x (256 ^ n * 256)
  have h2 := Int.emod_add_mul_ediv x (256 ^ n)
  have h3 := Int.emod_add_mul_ediv (x / 256 ^ n) 256
  rw [Int.ediv_ediv_of_nonneg (Int.le_of_lt hp)] at h3
  rw [show x % (256 ^ n * 256) = x - 256 ^ n * 256 * (x / (256 ^ n * 256)) by omega]
  have h4 : x = 256 ^ n * (x / 256 ^ n) + x % 256 ^ n := by omega
  have h5 : x / 256 ^ n = x / 256 ^ n % 256 + 256 * (x / (256 ^ n * 256)) := by omega
  have h6 : 256 ^ n * (x / 256 ^ n) = x / 256 ^ n % 256 * 256 ^ n + 256 ^ n * 256 * (x / (256 ^ n * 256)) := by
   conv => lhs; rw [h5]
   rw [Int.mul_add, Int.mul_comm (256 ^ n) (x / 256 ^ n % 256), Int.mul_assoc]
  omega
theorem be_num : ∀ (l : List Int), Bytes l → be l.length (Rd.num l) = l
 | [], _ => rfl
 | c :: l, h => by
  have hc := h c (by simp)
  have hl : Bytes l := fun x hx => h x (by simp [hx])
  have ih := be_num l hl
  have hb := Rd.num_bd l hl
  have hp : (0 : Int) < 256 ^ l.length := Int.pow_pos (by omega)
  rw [num_cons, List.length_cons, be]
  have e1 : (c * 256 ^ l.length + Rd.num l) / 256 ^ l.length = c := by
   rw [Int.add_comm, Int.add_mul_ediv_right _ _ (by omega), Int.ediv_eq_zero_of_lt hb.1 hb.2]
   omega
  have e2 : be l.length (c * 256 ^ l.length + Rd.num l) = be l.length (Rd.num l) := by
   have key : ∀ (n m : Nat) (a b : Int), n ≤ m → be n (a * 256 ^ m + b) = be n b := by
    intro n
    induction n with
    | zero => intros; rfl
    | succ n ihn =>
     intro m a b hnm
     rw [be, be, ihn m a b (by omega)]
     congr 1
     obtain ⟨k, rfl⟩ : ∃ k, m = n + 1 + k := ⟨m - (n + 1), by omega⟩
     have hpn : (0 : Int) < 256 ^ n := Int.pow_pos (by omega)
     rw [show a * 256 ^ (n + 1 + k) = (a * 256 ^ k * 256) * 256 ^ n by rw [Int.pow_add, Int.pow_succ]; simp only [Int.mul_assoc, Int.mul_comm, Int.mul_left_comm], Int.add_comm, Int.add_mul_ediv_right _ _ (by omega)]
     omega
   exact key l.length l.length c (Rd.num l) (Nat.le_refl _)
  rw [e1, e2, ih]
  congr 1
  omega
theorem wrap_small {x : Int} (h0 : 0 ≤ x) (h1 : x < 9223372036854775808) : wrap64 x = x := by unfold wrap64; omega
theorem take_at (pre post : List Int) (k : Nat) (x : Int) : Rd.takeF (pre ++ (be k x ++ post)) pre.length 0 k = (wrap64 (x % 256 ^ k), ((pre.length + k : Nat) : Int), 0) := by
 unfold Rd.takeF
 rw [if_pos rfl, if_pos (by simp only [List.length_append, be_length]; omega)]
 rw [show ((pre.length : Nat) : Int).toNat = pre.length from rfl, List.drop_left, List.take_append_of_le_length (by rw [be_length]; exact Nat.le_refl _), List.take_of_length_le (by rw [be_length]; exact Nat.le_refl _), num_be]
 rw [Int.natCast_add]
/-- A read that went well: what stood there. -/
theorem take_ok {xs : List Int} {p err v p2 : Int} {k : Nat} (hb : Bytes xs) (h0 : 0 ≤ p) (h : Rd.takeF xs p err k = (v, p2, 0)) : err = 0 ∧ p2 = p + k ∧ p2 ≤ xs.length ∧ (∃ l, l.length = k ∧ Bytes l ∧ v = wrap64 (Rd.num l) ∧ xs.drop p.toNat = l ++ xs.drop p2.toNat) := by
 unfold Rd.takeF at h
 by_cases he : err = 0
 ·rw [if_pos he] at h
  by_cases hl : p + k ≤ xs.length
  ·rw [if_pos hl] at h
   injection h with h1 h2
   injection h2 with h2 h3
   refine ⟨he, h2.symm, by omega, (xs.drop p.toNat).take k, ?_, ?_, h1.symm, ?_⟩
   ·rw [List.length_take, List.length_drop]; omega
   ·exact fun x hx => hb x (List.mem_of_mem_drop (List.mem_of_mem_take hx))
   ·rw [← h2, show (p + k).toNat = p.toNat + k by omega, ← List.drop_drop, List.take_append_drop]
  ·rw [if_neg hl] at h
   injection h with _ h
   injection h with _ h
   cases h
 ·rw [if_neg he] at h
  injection h with _ h
  injection h with _ h
  exact absurd h he
theorem take_err {xs : List Int} {p err : Int} {k : Nat} (h : err ≠ 0) : (Rd.takeF xs p err k).2.2 = err := by
 unfold Rd.takeF
 rw [if_neg h]
theorem take_small {l : List Int} {k : Nat} (hb : Bytes l) (hl : l.length = k) (hk : k ≤ 7) : wrap64 (Rd.num l) = Rd.num l := by
 have h := Rd.num_bd l hb
 have h2 := Rd.pow_bd k hk
 rw [hl] at h
 exact wrap_small h.1 (by omega)
def txt (k : Nat) (s : ByteArray) : List Int := be k s.size ++ bytesOf s
/-- A field's bytes. -/
def fb (c : Nat) (q : Rq) : List Int := if c = 83 then be 1 q.ses else if c = 66 then txt 1 q.bu else if c = 79 then txt 1 q.ob else if c = 86 then txt 1 q.ve else if c = 80 then txt 1 q.pr else if c = 68 then txt 1 q.de else if c = 88 then txt 2 q.bo else if c = 67 then be 1 q.ck ++ (if q.ck = 2 then be 4 q.re ++ be 4 q.im else []) else if c = 73 then be 8 q.id else if c = 78 then be 2 q.n else if c = 76 then be 1 q.pa.length ++ q.pa.map (fun x => x % 256) else []
/-- A request with a field of another. -/
def set (c : Nat) (a q : Rq) : Rq := if c = 83 then { a with ses := q.ses } else if c = 66 then { a with bu := q.bu } else if c = 79 then { a with ob := q.ob } else if c = 86 then { a with ve := q.ve } else if c = 80 then { a with pr := q.pr } else if c = 68 then { a with de := q.de } else if c = 88 then { a with bo := q.bo } else if c = 67 then { a with ck := q.ck, re := q.re, im := q.im } else if c = 73 then { a with id := q.id } else if c = 78 then { a with n := q.n } else if c = 76 then { a with pa := q.pa } else a
/-- What a right request's parts are. -/
def Fits (q : Rq) : Prop := (1 ≤ q.kd ∧ q.kd ≤ 23) ∧ (q.bu.size ≤ 255 ∧ q.ob.size ≤ 255 ∧ q.ve.size ≤ 255 ∧ q.pr.size ≤ 255 ∧ q.de.size ≤ 255) ∧ q.bo.size ≤ 65535 ∧ (0 ≤ q.ses ∧ q.ses ≤ 255) ∧ (0 ≤ q.n ∧ q.n ≤ 65535) ∧ (0 ≤ q.ck ∧ q.ck ≤ 255) ∧ q.pa.length ≤ 255 ∧ Bytes q.pa ∧ tagOk q.re q.im = true ∧ (q.ck = 2 ∨ (q.re = 0 ∧ q.im = 0)) ∧ (-9223372036854775808 ≤ q.id ∧ q.id ≤ 9223372036854775807)
theorem byte1 {x : Int} (h0 : 0 ≤ x) (h1 : x ≤ 255) : be 1 x = [x] := by simp [be]; omega
theorem rest_at (post : List Int) : ∀ (l pre acc : List Int), Bytes l → restF (pre ++ (l ++ post)) l.length pre.length 0 acc = (acc ++ l, ((pre.length + l.length : Nat) : Int), 0)
 | [], pre, acc, _ => by simp [restF]
 | x :: l, pre, acc, h => by
  have hx := h x (by simp)
  have hl : Bytes l := fun y hy => h y (by simp [hy])
  have h1 := take_at pre (l ++ post) 1 x
  rw [byte1 hx.1 hx.2] at h1
  have e : pre ++ (x :: l ++ post) = pre ++ ([x] ++ (l ++ post)) := by simp
  rw [List.length_cons, restF, e, h1]
  simp only [if_true]
  have ih := rest_at post l (pre ++ [x]) (acc ++ [x]) hl
  rw [show pre ++ [x] ++ (l ++ post) = pre ++ ([x] ++ (l ++ post)) by simp] at ih
  have e2 : wrap64 (x % 256 ^ 1) = x := by rw [show x % 256 ^ 1 = x by omega]; exact wrap_small hx.1 (by omega)
  rw [e2]
  simp only [List.length_append, List.length_singleton] at ih
  rw [ih]
  simp [Nat.add_assoc, Nat.add_comm 1]
theorem parts_at (post : List Int) : ∀ (l pre acc : List Int), Bytes l → partsF (pre ++ (l ++ post)) l.length pre.length 0 acc = (acc ++ l, ((pre.length + l.length : Nat) : Int), 0)
 | [], pre, acc, _ => by simp [partsF]
 | x :: l, pre, acc, h => by
  have hx := h x (by simp)
  have hl : Bytes l := fun y hy => h y (by simp [hy])
  have h1 := take_at pre (l ++ post) 1 x
  rw [byte1 hx.1 hx.2] at h1
  have e : pre ++ (x :: l ++ post) = pre ++ ([x] ++ (l ++ post)) := by simp
  rw [List.length_cons, partsF, e, h1]
  simp only [if_true]
  have ih := parts_at post l (pre ++ [x]) (acc ++ [x]) hl
  rw [show pre ++ [x] ++ (l ++ post) = pre ++ ([x] ++ (l ++ post)) by simp] at ih
  have e2 : wrap64 (x % 256 ^ 1) = x := by rw [show x % 256 ^ 1 = x by omega]; exact wrap_small hx.1 (by omega)
  rw [e2]
  simp only [List.length_append, List.length_singleton] at ih
  rw [ih]
  simp [Nat.add_assoc, Nat.add_comm 1]
theorem rest_ok {xs : List Int} (hb : Bytes xs) : ∀ (n : Nat) (p err : Int) (acc r : List Int) (p2 : Int), 0 ≤ p → p ≤ xs.length → restF xs n p err acc = (r, p2, 0) → err = 0 ∧ p ≤ p2 ∧ p2 ≤ xs.length ∧ ∃ l, l.length = n ∧ Bytes l ∧ r = acc ++ l ∧ xs.drop p.toNat = l ++ xs.drop p2.toNat
 | 0, p, err, acc, r, p2, h0, hp, h => by
  rw [restF] at h
  injection h with h1 h
  injection h with h2 h3
  subst h1 h2
  exact ⟨h3, Int.le_refl _, hp, [], rfl, (fun _ h => by cases h), by simp, rfl⟩
 | n + 1, p, err, acc, r, p2, h0, hp, h => by
  rw [restF] at h
  by_cases he : (Rd.takeF xs p err 1).2.2 = 0
  ·rw [if_pos he] at h
   obtain ⟨e0, e1, e2, l1, hl1, hb1, hv, hd⟩ := take_ok (v := (Rd.takeF xs p err 1).1) (p2 := (Rd.takeF xs p err 1).2.1) hb h0 (by rw [← he])
   obtain ⟨f0, f1, f2, l, hl, hbl, hr, hd2⟩ := rest_ok hb n _ _ _ _ _ (by omega) e2 h
   obtain ⟨x, rfl⟩ : ∃ x, l1 = [x] := List.length_eq_one_iff.1 hl1
   refine ⟨e0, by omega, f2, x :: l, by simp [hl], ?_, ?_, ?_⟩
   ·intro y hy
    rcases List.mem_cons.1 hy with rfl | hy
    ·exact hb1 _ (by simp)
    ·exact hbl y hy
   ·rw [hr, hv]
    have hx := hb1 x (by simp)
    rw [take_small hb1 rfl (by simp)]
    simp [Rd.num]
   ·rw [hd, hd2]
    rfl
  ·rw [if_neg he] at h
   injection h with _ h
   injection h with _ h
   exact absurd h he
theorem parts_ok {xs : List Int} (hb : Bytes xs) : ∀ (n : Nat) (p err : Int) (acc r : List Int) (p2 : Int), 0 ≤ p → p ≤ xs.length → partsF xs n p err acc = (r, p2, 0) → err = 0 ∧ p ≤ p2 ∧ p2 ≤ xs.length ∧ ∃ l, l.length = n ∧ Bytes l ∧ r = acc ++ l ∧ xs.drop p.toNat = l ++ xs.drop p2.toNat
 | 0, p, err, acc, r, p2, h0, hp, h => by
  rw [partsF] at h
  injection h with h1 h
  injection h with h2 h3
  subst h1 h2
  exact ⟨h3, Int.le_refl _, hp, [], rfl, (fun _ h => by cases h), by simp, rfl⟩
 | n + 1, p, err, acc, r, p2, h0, hp, h => by
  rw [partsF] at h
  by_cases he : err = 0
  ·rw [if_pos he] at h
   have hpb : 0 ≤ (Rd.takeF xs p err 1).2.1 ∧ (Rd.takeF xs p err 1).2.1 ≤ xs.length := by
    unfold Rd.takeF
    rw [if_pos he]
    by_cases hl : p + ((1 : Nat) : Int) ≤ xs.length
    ·rw [if_pos hl]; constructor <;> dsimp only <;> omega
    ·rw [if_neg hl]; exact ⟨h0, hp⟩
   obtain ⟨f0, f1, f2, l, hl, hbl, hr, hd2⟩ := parts_ok hb n _ _ _ _ _ hpb.1 hpb.2 h
   obtain ⟨e0, e1, e2, l1, hl1, hb1, hv, hd⟩ := take_ok (v := (Rd.takeF xs p err 1).1) (p2 := (Rd.takeF xs p err 1).2.1) hb h0 (by rw [← f0])
   obtain ⟨x, rfl⟩ : ∃ x, l1 = [x] := List.length_eq_one_iff.1 hl1
   refine ⟨e0, by omega, f2, x :: l, by simp [hl], ?_, ?_, ?_⟩
   ·intro y hy
    rcases List.mem_cons.1 hy with rfl | hy
    ·exact hb1 _ (by simp)
    ·exact hbl y hy
   ·rw [hr, hv]
    rw [take_small hb1 rfl (by simp)]
    simp [Rd.num]
   ·rw [hd, hd2]
    rfl
  ·rw [if_neg he] at h
   exact absurd (parts_ok hb n _ _ _ _ _ h0 hp h).1 he
theorem head_at (pre post : List Int) (k : Nat) (x : Int) (hx : 0 ≤ x) (hk : x < 256 ^ k) (h2 : x < 9223372036854775808) : Rd.takeF (pre ++ (be k x ++ post)) pre.length 0 k = (x, ((pre.length + k : Nat) : Int), 0) := by
 rw [take_at, Int.emod_eq_of_lt hx hk, wrap_small hx h2]
theorem str_at (pre post : List Int) (k : Nat) (s : ByteArray) (hk : (s.size : Int) < 256 ^ k) (h2 : s.size < 9223372036854775808) : ∃ r, Rd.takeF (pre ++ (txt k s ++ post)) pre.length 0 k = ((s.size : Int), r, 0) ∧ restF (pre ++ (txt k s ++ post)) s.size r 0 [] = (bytesOf s, ((pre.length + (txt k s).length : Nat) : Int), 0) := by
 refine ⟨((pre.length + k : Nat) : Int), ?_, ?_⟩
 ·have := head_at pre (bytesOf s ++ post) k s.size (by omega) hk (by omega)
  rw [txt, List.append_assoc]
  exact this
 ·have := rest_at post (bytesOf s) (pre ++ be k s.size) [] (bytesOf_range s)
  rw [bytesOf_length, List.length_append, be_length] at this
  rw [txt, List.append_assoc, ← List.append_assoc pre, this, List.length_append, be_length, bytesOf_length, Nat.add_assoc, List.nil_append]
theorem p1 : (256 : Int) ^ 1 = 256 := by decide
theorem p2 : (256 : Int) ^ 2 = 65536 := by decide
theorem p4 : (256 : Int) ^ 4 = 4294967296 := by decide
theorem get1_str (c : Nat) (hc : c ∈ [66, 79, 86, 80, 68, 88]) (pre post : List Int) (a q : Rq) (hq : Fits q) : get1 (pre ++ (fb c q ++ post)) c a pre.length 0 = (set c a q, ((pre.length + (fb c q).length : Nat) : Int), 0) := by
 obtain ⟨h1, ⟨h2, h3, h4, h5, h6⟩, h7, h8, h9, h10, h11, h12, h13, h14, h15⟩ := hq
 simp only [List.mem_cons, List.not_mem_nil, or_false] at hc
 rcases hc with rfl | rfl | rfl | rfl | rfl | rfl
 ·obtain ⟨r, e1, e2⟩ := str_at pre post 1 q.bu (by rw [p1]; omega) (by omega)
  simp [get1, getF, fb, set, e1, e2, strOfNums_bytesOf]
 ·obtain ⟨r, e1, e2⟩ := str_at pre post 1 q.ob (by rw [p1]; omega) (by omega)
  simp [get1, getF, fb, set, e1, e2, strOfNums_bytesOf]
 ·obtain ⟨r, e1, e2⟩ := str_at pre post 1 q.ve (by rw [p1]; omega) (by omega)
  simp [get1, getF, fb, set, e1, e2, strOfNums_bytesOf]
 ·obtain ⟨r, e1, e2⟩ := str_at pre post 1 q.pr (by rw [p1]; omega) (by omega)
  simp [get1, getF, fb, set, e1, e2, strOfNums_bytesOf]
 ·obtain ⟨r, e1, e2⟩ := str_at pre post 1 q.de (by rw [p1]; omega) (by omega)
  simp [get1, getF, fb, set, e1, e2, strOfNums_bytesOf]
 ·obtain ⟨r, e1, e2⟩ := str_at pre post 2 q.bo (by rw [p2]; omega) (by omega)
  simp [get1, getF, fb, set, e1, e2, strOfNums_bytesOf]
theorem tag_at (pre post : List Int) (re im : Int) (h : tagOk re im = true) : tagF (pre ++ (be 4 re ++ (be 4 im ++ post))) pre.length 0 = ((re, im), ((pre.length + 4 + 4 : Nat) : Int), 0) := by
 have h := of_decide_eq_true h
 have e1 := head_at pre (be 4 im ++ post) 4 re (by omega) (by rw [p4]; omega) (by omega)
 have e2 := head_at (pre ++ be 4 re) post 4 im (by omega) (by rw [p4]; omega) (by omega)
 rw [List.append_assoc, List.length_append, be_length] at e2
 unfold tagF
 rw [e1]
 simp only [e2]
theorem get1_at (c : Nat) (hc : c ∈ letters) (pre post : List Int) (a q : Rq) (hq : Fits q) (hp : c = 76 → a.pa = []) (hz : c = 67 → a.re = 0 ∧ a.im = 0) : get1 (pre ++ (fb c q ++ post)) c a pre.length 0 = (set c a q, ((pre.length + (fb c q).length : Nat) : Int), 0) := by
 by_cases hs : c ∈ [66, 79, 86, 80, 68, 88]
 ·exact get1_str c hs pre post a q hq
 obtain ⟨h1, ⟨h2, h3, h4, h5, h6⟩, h7, h8, h9, h10, h11, h12, h13, h14, h15⟩ := hq
 simp only [letters, List.mem_cons, List.not_mem_nil, or_false] at hc hs
 have hc : c = 83 ∨ c = 67 ∨ c = 73 ∨ c = 78 ∨ c = 76 := by omega
 rcases hc with rfl | rfl | rfl | rfl | rfl
 ·have e1 := head_at pre post 1 q.ses (by omega) (by rw [p1]; omega) (by omega)
  simp [get1, getF, fb, set, e1, be_length]
 ·by_cases h2 : q.ck = 2
  ·have e1 := head_at pre (be 4 q.re ++ (be 4 q.im ++ post)) 1 q.ck (by omega) (by rw [p1]; omega) (by omega)
   have e2 := tag_at (pre ++ be 1 q.ck) post q.re q.im h13
   rw [List.append_assoc, List.length_append, be_length] at e2
   rw [h2] at e1 e2
   push_cast at e1 e2
   simp [get1, getF, fb, set, e1, e2, be_length, h2, Nat.add_assoc, Int.add_assoc]
  ·have e1 := head_at pre post 1 q.ck (by omega) (by rw [p1]; omega) (by omega)
   rcases h14 with h14 | ⟨h14, h16⟩
   ·exact absurd h14 h2
   ·obtain ⟨z1, z2⟩ := hz rfl
    simp [get1, getF, fb, set, e1, be_length, h2, h14, h16, z1, z2]
 ·have e1 := take_at pre post 8 q.id
  have e2 : wrap64 (q.id % 256 ^ 8) = q.id := by
   have : (256 : Int) ^ 8 = 18446744073709551616 := by decide
   rw [this]
   unfold wrap64
   omega
  rw [e2] at e1
  simp [get1, getF, fb, set, e1, be_length]
 ·have e1 := head_at pre post 2 q.n (by omega) (by rw [p2]; omega) (by omega)
  simp [get1, getF, fb, set, e1, be_length]
 ·have e1 := head_at pre (q.pa ++ post) 1 q.pa.length (by omega) (by rw [p1]; omega) (by omega)
  have e2 := parts_at post q.pa (pre ++ be 1 q.pa.length) [] h12
  have e3 : q.pa.map (fun x => x % 256) = q.pa := by
   conv => rhs; rw [← List.map_id q.pa]
   exact List.map_congr_left (fun x hx => by have := h12 x hx; simp only [id]; omega)
  rw [List.append_assoc, List.length_append, be_length] at e2
  push_cast at e1 e2
  simp [get1, fb, set, e1, e2, e3, hp rfl, be_length, Nat.add_assoc, Int.add_assoc]
theorem str_ok {xs : List Int} (hb : Bytes xs) {k : Nat} (hk : k ≤ 7) {p err v r1 r2 p2 : Int} {l : List Int} (h0 : 0 ≤ p) (ht : Rd.takeF xs p err k = (v, r1, r2)) (hr : restF xs v.toNat r1 r2 [] = (l, p2, 0)) : err = 0 ∧ p ≤ p2 ∧ p2 ≤ xs.length ∧ xs.drop p.toNat = txt k (strOfNums l) ++ xs.drop p2.toNat := by
 by_cases he : r2 = 0
 ·subst he
  obtain ⟨e0, e1, e2, l1, hl1, hb1, hv, hd⟩ := take_ok hb h0 ht
  obtain ⟨f0, f1, f2, l2, hl2, hb2, hr2, hd2⟩ := rest_ok hb _ _ _ _ _ _ (by omega) e2 hr
  refine ⟨e0, by omega, f2, ?_⟩
  rw [List.nil_append] at hr2
  subst hr2
  have hn := Rd.num_bd l1 hb1
  rw [hd, hd2, txt, bytesOf_strOfNums hb2, size_strOfNums, hl2, hv, take_small hb1 hl1 hk, Int.toNat_of_nonneg hn.1, ← hl1, be_num l1 hb1, List.append_assoc]
 ·exfalso
  have key : ∀ n p2' acc l', restF xs n r1 r2 acc ≠ (l', p2', 0) := by
   intro n p2' acc l' h
   cases n with
   | zero =>
    rw [restF] at h
    injection h with _ h
    injection h with _ h
    exact he h
   | succ n =>
    rw [restF, if_neg (by rw [take_err he]; exact he)] at h
    injection h with _ h
    injection h with _ h
    rw [take_err he] at h
    exact he h
  exact key _ _ _ _ hr
theorem fb_ne {c c2 : Nat} (hne : c ≠ c2) (xs : List Int) (q : Rq) (p err : Int) (hc : c ∈ letters) : fb c2 (get1 xs c q p err).1 = fb c2 q := by
 simp only [letters, List.mem_cons, List.not_mem_nil, or_false] at hc
 rcases hc with rfl | rfl | rfl | rfl | rfl | rfl | rfl | rfl | rfl | rfl | rfl
 all_goals first
  | (simp only [get1, getF, fb, if_neg (Ne.symm hne)]; rfl)
  | (simp [get1, getF]; split <;> simp [fb, Ne.symm hne])
theorem int_ok {xs : List Int} (hb : Bytes xs) {k : Nat} (hk : k ≤ 7 ∨ k = 8) {p err v p2 : Int} (h0 : 0 ≤ p) (ht : Rd.takeF xs p err k = (v, p2, 0)) : err = 0 ∧ p2 = p + k ∧ p2 ≤ xs.length ∧ xs.drop p.toNat = be k v ++ xs.drop p2.toNat := by
 obtain ⟨e0, e1, e2, l1, hl1, hb1, hv, hd⟩ := take_ok hb h0 ht
 refine ⟨e0, e1, e2, ?_⟩
 rw [hd, hv]
 congr 1
 have h2 := be_num l1 hb1
 rw [hl1] at h2
 rcases hk with hk | rfl
 ·rw [take_small hb1 hl1 hk, h2]
 ·rw [be_8 _ (Rd.num l1) (by unfold wrap64; omega), h2]
theorem tag_ok {xs : List Int} (hb : Bytes xs) {p err p2 : Int} {t : Int × Int} (h0 : 0 ≤ p) (ht : tagF xs p err = (t, p2, 0)) : err = 0 ∧ p2 = p + 8 ∧ p2 ≤ xs.length ∧ xs.drop p.toNat = be 4 t.1 ++ be 4 t.2 ++ xs.drop p2.toNat := by
 unfold tagF at ht
 injection ht with h1 h2
 obtain ⟨⟨v, r1, r2⟩, hv⟩ : ∃ r, Rd.takeF xs p err 4 = r := ⟨_, rfl⟩
 rw [hv] at h1 h2
 dsimp only at h1 h2
 by_cases he : r2 = 0
 ·subst he
  obtain ⟨e0, e1, e2, e3⟩ := int_ok hb (.inl (by omega)) h0 hv
  obtain ⟨⟨v3, r3, r4⟩, hv3⟩ : ∃ r, Rd.takeF xs r1 0 4 = r := ⟨_, rfl⟩
  rw [hv3] at h1 h2
  dsimp only at h1 h2
  injection h2 with h2 h4
  subst h2 h4 h1
  obtain ⟨f0, f1, f2, f3⟩ := int_ok hb (.inl (by omega)) (by omega) hv3
  refine ⟨e0, by omega, f2, ?_⟩
  rw [e3, f3, List.append_assoc]
 ·exfalso
  have := take_err (xs := xs) (p := r1) (k := 4) he
  rw [h2] at this
  exact he this.symm
theorem get1_ok {xs : List Int} (hb : Bytes xs) {c : Nat} (hc : c ∈ letters) {q q2 : Rq} {p err p2 : Int} (h0 : 0 ≤ p) (hp : c = 76 → q.pa = []) (h : get1 xs c q p err = (q2, p2, 0)) : err = 0 ∧ p ≤ p2 ∧ p2 ≤ xs.length ∧ xs.drop p.toNat = fb c q2 ++ xs.drop p2.toNat ∧ (c ≠ 76 → q2.pa = q.pa) ∧ q2.kd = q.kd := by
 simp only [letters, List.mem_cons, List.not_mem_nil, or_false] at hc
 obtain ⟨⟨v, r1, r2⟩, ht⟩ : ∃ t, Rd.takeF xs p err 1 = t := ⟨_, rfl⟩
 have str : ∀ {k : Nat}, k ≤ 7 → ∀ {v r1 r2 : Int}, Rd.takeF xs p err k = (v, r1, r2) → ∀ {p2 : Int}, (restF xs v.toNat r1 r2 []).2 = (p2, 0) → err = 0 ∧ p ≤ p2 ∧ p2 ≤ xs.length ∧ xs.drop p.toNat = txt k (strOfNums (restF xs v.toNat r1 r2 []).1) ++ xs.drop p2.toNat := fun hk _ _ _ ht _ hr => str_ok hb hk h0 ht (by rw [← hr])
 rcases hc with rfl | rfl | rfl | rfl | rfl | rfl | rfl | rfl | rfl | rfl | rfl
 ·simp [get1, getF, ht] at h
  obtain ⟨rfl, rfl, rfl⟩ := h
  obtain ⟨e0, e1, e2, e3⟩ := int_ok hb (.inl (by omega)) h0 ht
  exact ⟨e0, by omega, e2, by simpa [fb] using e3, fun _ => rfl, rfl⟩
 ·simp [get1, getF, ht] at h
  obtain ⟨rfl, h⟩ := h
  obtain ⟨e0, e1, e2, e3⟩ := str (by omega) ht h
  exact ⟨e0, e1, e2, by simpa [fb] using e3, fun _ => rfl, rfl⟩
 ·simp [get1, getF, ht] at h
  obtain ⟨rfl, h⟩ := h
  obtain ⟨e0, e1, e2, e3⟩ := str (by omega) ht h
  exact ⟨e0, e1, e2, by simpa [fb] using e3, fun _ => rfl, rfl⟩
 ·simp [get1, getF, ht] at h
  obtain ⟨rfl, h⟩ := h
  obtain ⟨e0, e1, e2, e3⟩ := str (by omega) ht h
  exact ⟨e0, e1, e2, by simpa [fb] using e3, fun _ => rfl, rfl⟩
 ·simp [get1, getF, ht] at h
  obtain ⟨rfl, h⟩ := h
  obtain ⟨e0, e1, e2, e3⟩ := str (by omega) ht h
  exact ⟨e0, e1, e2, by simpa [fb] using e3, fun _ => rfl, rfl⟩
 ·simp [get1, getF, ht] at h
  obtain ⟨rfl, h⟩ := h
  obtain ⟨e0, e1, e2, e3⟩ := str (by omega) ht h
  exact ⟨e0, e1, e2, by simpa [fb] using e3, fun _ => rfl, rfl⟩
 ·have hg : get1 xs 67 q p err = (if (Rd.takeF xs p err 1).1 = 2 then ({ q with ck := (Rd.takeF xs p err 1).1, re := (tagF xs (Rd.takeF xs p err 1).2.1 (Rd.takeF xs p err 1).2.2).1.1, im := (tagF xs (Rd.takeF xs p err 1).2.1 (Rd.takeF xs p err 1).2.2).1.2 }, (tagF xs (Rd.takeF xs p err 1).2.1 (Rd.takeF xs p err 1).2.2).2) else ({ q with ck := (Rd.takeF xs p err 1).1 }, (Rd.takeF xs p err 1).2)) := by simp [get1, getF]
  rw [hg, ht] at h
  dsimp only at h
  by_cases hv : v = 2
  ·rw [if_pos hv] at h
   injection h with h1 h2
   obtain ⟨t, hT⟩ : ∃ t, tagF xs r1 r2 = t := ⟨_, rfl⟩
   rw [hT] at h1 h2
   by_cases he : r2 = 0
   ·subst he
    obtain ⟨e0, e1, e2, e3⟩ := int_ok hb (.inl (by omega)) h0 ht
    obtain ⟨f0, f1, f2, f3⟩ := tag_ok hb (by omega) (hT.trans (show t = (t.1, p2, 0) by rw [← h2]))
    subst h1
    refine ⟨e0, by omega, f2, ?_, fun _ => rfl, rfl⟩
    rw [e3, f3]
    simp [fb, hv]
   ·exfalso
    have h3 : (tagF xs r1 r2).2.2 = r2 := by
     unfold tagF
     have h4 := take_err (xs := xs) (p := r1) (k := 4) he
     have h5 : (Rd.takeF xs r1 r2 4).2.2 ≠ 0 := by rw [h4]; exact he
     dsimp only
     rw [take_err h5, h4]
    rw [hT, h2] at h3
    exact he h3.symm
  ·rw [if_neg hv] at h
   injection h with h1 h2
   injection h2 with h2 h3
   subst h1 h2 h3
   obtain ⟨e0, e1, e2, e3⟩ := int_ok hb (.inl (by omega)) h0 ht
   exact ⟨e0, by omega, e2, by simpa [fb, hv] using e3, fun _ => rfl, rfl⟩
 ·obtain ⟨⟨v, r1, r2⟩, ht⟩ : ∃ t, Rd.takeF xs p err 8 = t := ⟨_, rfl⟩
  simp [get1, getF, ht] at h
  obtain ⟨rfl, rfl, rfl⟩ := h
  obtain ⟨e0, e1, e2, e3⟩ := int_ok hb (.inr rfl) h0 ht
  exact ⟨e0, by omega, e2, by simpa [fb] using e3, fun _ => rfl, rfl⟩
 ·obtain ⟨⟨v, r1, r2⟩, ht⟩ : ∃ t, Rd.takeF xs p err 2 = t := ⟨_, rfl⟩
  simp [get1, getF, ht] at h
  obtain ⟨rfl, rfl, rfl⟩ := h
  obtain ⟨e0, e1, e2, e3⟩ := int_ok hb (.inl (by omega)) h0 ht
  exact ⟨e0, by omega, e2, by simpa [fb] using e3, fun _ => rfl, rfl⟩
 ·simp [get1, ht, hp rfl] at h
  obtain ⟨rfl, h⟩ := h
  obtain ⟨⟨l, r3, r4⟩, hr⟩ : ∃ t, partsF xs v.toNat r1 r2 [] = t := ⟨_, rfl⟩
  rw [hr] at h ⊢
  injection h with h1 h2
  subst h1 h2
  by_cases he : r2 = 0
  ·subst he
   obtain ⟨e0, e1, e2, l1, hl1, hb1, hv, hd⟩ := take_ok hb h0 ht
   obtain ⟨f0, f1, f2, l2, hl2, hb2, hr2, hd2⟩ := parts_ok hb _ _ _ _ _ _ (by omega) e2 hr
   rw [List.nil_append] at hr2
   subst hr2
   have hn := Rd.num_bd l1 hb1
   have e3 : l.map (fun x => x % 256) = l := by
    conv => rhs; rw [← List.map_id l]
    exact List.map_congr_left (fun x hx => by have := hb2 x hx; simp only [id]; omega)
   have h9 := be_num l1 hb1
   rw [hl1] at h9
   refine ⟨e0, by omega, f2, ?_, fun h => absurd rfl h, rfl⟩
   rw [hd, hd2]
   simp [fb, e3]
   rw [hl2, hv, take_small hb1 hl1 (by omega), Int.toNat_of_nonneg hn.1, h9]
  ·exfalso
   have key : ∀ (n : Nat) (p err : Int) (acc : List Int), err ≠ 0 → (partsF xs n p err acc).2.2 = err := by
    intro n
    induction n with
    | zero => intros; rfl
    | succ n ih => intro p err acc h; rw [partsF, if_neg h]; exact ih p err acc h
   have h4 := key v.toNat r1 r2 [] he
   rw [hr] at h4
   exact he h4.symm
 ·obtain ⟨⟨v, r1, r2⟩, ht⟩ : ∃ t, Rd.takeF xs p err 2 = t := ⟨_, rfl⟩
  simp [get1, getF, ht] at h
  obtain ⟨rfl, h⟩ := h
  obtain ⟨e0, e1, e2, e3⟩ := str (by omega) ht h
  exact ⟨e0, e1, e2, by simpa [fb] using e3, fun _ => rfl, rfl⟩
def bytesL (L : List UInt8) (q : Rq) : List Int := L.flatMap fun c => fb c.toNat q
def sets (L : List UInt8) (a q : Rq) : Rq := L.foldl (fun a c => set c.toNat a q) a
theorem set_pa {c : Nat} (h : c ≠ 76) (a q : Rq) : (set c a q).pa = a.pa := by
 unfold set
 repeat' split
 all_goals first | rfl | (exfalso; exact h (by assumption))
theorem set_tag {c : Nat} (h : c ≠ 67) (a q : Rq) : (set c a q).re = a.re ∧ (set c a q).im = a.im := by
 unfold set
 repeat' split
 all_goals first | exact ⟨rfl, rfl⟩ | (exfalso; exact h (by assumption))
theorem gets_at (q : Rq) (hq : Fits q) (post : List Int) : ∀ (L : List UInt8) (pre : List Int) (a : Rq), (∀ c ∈ L, c.toNat ∈ letters) → (L.map UInt8.toNat).Nodup → (76 ∈ L.map UInt8.toNat → a.pa = []) → (67 ∈ L.map UInt8.toNat → a.re = 0 ∧ a.im = 0) → gets (pre ++ (bytesL L q ++ post)) L a pre.length 0 = (sets L a q, ((pre.length + (bytesL L q).length : Nat) : Int), 0)
 | [], pre, a, _, _, _, _ => by simp [gets, sets, bytesL]
 | c :: L, pre, a, hL, hn, hp, hz => by
  have hc := hL c (by simp)
  rw [List.map_cons, List.nodup_cons] at hn
  have h1 := get1_at c.toNat hc pre (bytesL L q ++ post) a q hq (fun e => hp (by simp [e])) (fun e => hz (by simp [e]))
  have e : pre ++ (bytesL (c :: L) q ++ post) = pre ++ (fb c.toNat q ++ (bytesL L q ++ post)) := by simp [bytesL]
  rw [gets, e, h1]
  dsimp only
  have h2 := gets_at q hq post L (pre ++ fb c.toNat q) (set c.toNat a q) (fun d hd => hL d (by simp [hd])) hn.2
   (fun h => by rw [set_pa (fun e => hn.1 (by rw [e]; exact h))]; exact hp (by rw [List.map_cons]; exact List.mem_cons_of_mem _ h))
   (fun h => by have := set_tag (c := c.toNat) (fun e => hn.1 (by rw [e]; exact h)) a q; rw [this.1, this.2]; exact hz (by rw [List.map_cons]; exact List.mem_cons_of_mem _ h))
  rw [List.append_assoc, List.length_append] at h2
  rw [h2]
  simp [sets, bytesL, Nat.add_assoc]
theorem rest_err {xs : List Int} {err : Int} (h : err ≠ 0) (n : Nat) (p : Int) (acc : List Int) : (restF xs n p err acc).2.2 = err := by
 cases n with
 | zero => rfl
 | succ n => rw [restF, if_neg (by rw [take_err h]; exact h)]; exact take_err h
theorem parts_err {xs : List Int} {err : Int} (h : err ≠ 0) : ∀ (n : Nat) (p : Int) (acc : List Int), (partsF xs n p err acc).2.2 = err := by
 intro n
 induction n with
 | zero => intros; rfl
 | succ n ih => intro p acc; rw [partsF, if_neg h]; exact ih p acc
theorem get1_err {xs : List Int} {c : Nat} (hc : c ∈ letters) (q : Rq) (p : Int) {err : Int} (h : err ≠ 0) : (get1 xs c q p err).2.2 = err := by
 have ht : ∀ k p, (Rd.takeF xs p err k).2.2 = err := fun k p => take_err h
 have hr : ∀ n p acc, (restF xs n p err acc).2.2 = err := fun n p acc => rest_err h n p acc
 have hpt : ∀ n p acc, (partsF xs n p err acc).2.2 = err := fun n p acc => parts_err h n p acc
 have hg : ∀ p, (tagF xs p err).2.2 = err := fun p => by unfold tagF; dsimp only; rw [ht, ht]
 simp only [letters, List.mem_cons, List.not_mem_nil, or_false] at hc
 rcases hc with rfl | rfl | rfl | rfl | rfl | rfl | rfl | rfl | rfl | rfl | rfl
 all_goals first
  | (simp [get1, getF, ht, hr, hpt, hg]; done)
  | (simp [get1, getF]; split <;> simp [ht, hg])
theorem gets_err {xs : List Int} {err : Int} (h : err ≠ 0) : ∀ (L : List UInt8) (q : Rq) (p : Int), (∀ c ∈ L, c.toNat ∈ letters) → (gets xs L q p err).2.2 = err
 | [], q, p, _ => rfl
 | c :: L, q, p, hL => by
  rw [gets, get1_err (hL c (by simp)) q p h]
  exact gets_err h L _ _ (fun d hd => hL d (by simp [hd]))
theorem gets_ok {xs : List Int} (hb : Bytes xs) : ∀ (L : List UInt8) (a q : Rq) (p err p2 : Int), (∀ c ∈ L, c.toNat ∈ letters) → (L.map UInt8.toNat).Nodup → (76 ∈ L.map UInt8.toNat → a.pa = []) → 0 ≤ p → p ≤ xs.length → gets xs L a p err = (q, p2, 0) →
  err = 0 ∧ p ≤ p2 ∧ p2 ≤ xs.length ∧ xs.drop p.toNat = bytesL L q ++ xs.drop p2.toNat ∧ q.kd = a.kd ∧ ∀ c, c ∉ L.map UInt8.toNat → fb c q = fb c a
 | [], a, q, p, err, p2, _, _, _, h0, hp, h => by
  rw [gets] at h
  injection h with h1 h
  injection h with h2 h3
  subst h1 h2
  exact ⟨h3, Int.le_refl _, hp, rfl, rfl, fun _ _ => rfl⟩
 | c :: L, a, q, p, err, p2, hL, hn, hpa, h0, hp, h => by
  have hc := hL c (by simp)
  rw [List.map_cons, List.nodup_cons] at hn
  rw [gets] at h
  obtain ⟨⟨q1, p1, e1⟩, h1⟩ : ∃ r, get1 xs c.toNat a p err = r := ⟨_, rfl⟩
  have hfr : ∀ d, d ≠ c.toNat → fb d q1 = fb d a := fun d hd => by have := fb_ne (c := c.toNat) (c2 := d) (Ne.symm hd) xs a p err hc; rw [h1] at this; exact this
  rw [h1] at h
  dsimp only at h
  have he1 : e1 = 0 := by
   refine Classical.byContradiction fun hne => ?_
   have := gets_err hne L q1 p1 (xs := xs) (fun d hd => hL d (by simp [hd]))
   rw [h] at this
   exact hne this.symm
  subst he1
  obtain ⟨g0, g1, g2, g3, g4, g5⟩ := get1_ok hb hc h0 (fun e => hpa (by simp [e])) h1
  obtain ⟨f0, f1, f2, f3, f4, f5⟩ := gets_ok hb L q1 q p1 0 p2 (fun d hd => hL d (by simp [hd])) hn.2 (fun h => by rw [g4 (fun e => hn.1 (by rw [e]; exact h))]; exact hpa (by rw [List.map_cons]; exact List.mem_cons_of_mem _ h)) (by omega) g2 h
  refine ⟨g0, by omega, f2, ?_, f4.trans g5, ?_⟩
  ·rw [g3, f3]
   have := f5 c.toNat hn.1
   rw [← this]
   simp [bytesL]
  ·intro d hd
   rw [List.map_cons, List.mem_cons, not_or] at hd
   rw [f5 d hd.2, hfr d hd.1]
def fs (x : Int) : ByteArray := if x = 2 ∨ x = 22 then ⟨#[73]⟩ else if x = 3 ∨ x = 4 ∨ x = 7 then ⟨#[83]⟩ else if x = 5 ∨ x = 6 ∨ x = 9 ∨ x = 20 then ⟨#[83, 66]⟩ else if x = 8 then ⟨#[83, 66, 78]⟩ else if x = 10 then ⟨#[83, 66, 79, 67, 88]⟩ else if x = 11 ∨ x = 12 ∨ x = 13 then ⟨#[83, 66, 79, 86]⟩ else if x = 14 then ⟨#[83, 66, 79, 80, 68, 78]⟩ else if x = 15 then ⟨#[83, 66, 79, 80, 73, 78]⟩ else if x = 16 then ⟨#[83, 66, 79]⟩ else if x = 17 then ⟨#[83, 66, 79, 73, 78, 88]⟩ else if x = 18 then ⟨#[83, 66, 79, 73, 76]⟩ else if x = 19 ∨ x = 21 then ⟨#[83, 66, 79, 73]⟩ else ⟨#[]⟩
theorem Fields_is (k : Nat) (x : Int) : wire_Fields.f (k + 4) x = some (fs x) := by
 by_cases h : 0 ≤ x ∧ x ≤ 23
 ·have : x = 0 ∨ x = 1 ∨ x = 2 ∨ x = 3 ∨ x = 4 ∨ x = 5 ∨ x = 6 ∨ x = 7 ∨ x = 8 ∨ x = 9 ∨ x = 10 ∨ x = 11 ∨ x = 12 ∨ x = 13 ∨ x = 14 ∨ x = 15 ∨ x = 16 ∨ x = 17 ∨ x = 18 ∨ x = 19 ∨ x = 20 ∨ x = 21 ∨ x = 22 ∨ x = 23 := by omega
  rcases this with rfl | rfl | rfl | rfl | rfl | rfl | rfl | rfl | rfl | rfl | rfl | rfl | rfl | rfl | rfl | rfl | rfl | rfl | rfl | rfl | rfl | rfl | rfl | rfl <;> rfl
 ·have ne : ∀ n : Int, 0 ≤ n → n ≤ 23 → ¬ x = n := fun n _ _ e => h (by omega)
  simp [wire_Fields.f, wire_Fields.j0, wire_Fields.j1, wire_Fields.j2, wire_Fields.j3, fs, ne]
def nice (s : ByteArray) : Prop := okLetters s = true ∧ s.size ≤ 6 ∧ (s.data.toList.map UInt8.toNat).Nodup ∧ ∀ c ∈ s.data.toList, c.toNat ∈ letters
theorem nice_ite {c : Prop} [Decidable c] {a b : ByteArray} (ha : nice a) (hb : nice b) : nice (if c then a else b) := by split <;> assumption
theorem fs_nice (x : Int) : nice (fs x) := by
 unfold fs
 repeat' refine nice_ite ?_ ?_
 all_goals exact ⟨by decide, by decide, by decide, by decide⟩
def Emp (q : Rq) : Prop := q.ses = 0 ∧ q.bu = ⟨#[]⟩ ∧ q.ob = ⟨#[]⟩ ∧ q.ve = ⟨#[]⟩ ∧ q.pr = ⟨#[]⟩ ∧ q.de = ⟨#[]⟩ ∧ (q.ck = 0 ∧ q.re = 0 ∧ q.im = 0) ∧ q.id = 0 ∧ q.n = 0 ∧ q.pa = [] ∧ q.bo = ⟨#[]⟩
theorem toList_nil (s : ByteArray) : s.toList = [] ↔ s = ⟨#[]⟩ := by
 constructor
 ·intro h
  rw [Lib.toList_data] at h
  apply ByteArray.ext
  exact Array.toList_eq_nil_iff.1 h
 ·rintro rfl
  rw [Lib.toList_data]
theorem emp_is (q : Rq) : (Emp q → wire_Check.emp q = some true) ∧ (¬ Emp q → wire_Check.emp q = some false) := by
 unfold wire_Check.emp wire_empty.f Emp
 simp only [toList_nil]
 have hbo : (q.bo.toList == ([] : List UInt8)) = decide (q.bo = ⟨#[]⟩) := by
  rw [Bool.eq_iff_iff]
  simp [toList_nil]
 rw [hbo]
 constructor
 ·rintro ⟨h1, h2, h3, h4, h5, h6, ⟨h7, h8, h9⟩, h10, h11, h12, h13⟩
  simp [h1, h2, h3, h4, h5, h6, h7, h8, h9, h10, h11, h12, h13]
 ·intro h
  by_cases h1 : q.ses = 0
  case neg => rw [if_neg h1]
  rw [if_pos h1]
  by_cases h2 : q.bu = ⟨#[]⟩
  case neg => rw [if_neg h2]
  rw [if_pos h2]
  by_cases h3 : q.ob = ⟨#[]⟩
  case neg => rw [if_neg h3]
  rw [if_pos h3]
  by_cases h4 : q.ve = ⟨#[]⟩
  case neg => rw [if_neg h4]
  rw [if_pos h4]
  by_cases h5 : q.pr = ⟨#[]⟩
  case neg => rw [if_neg h5]
  rw [if_pos h5]
  by_cases h6 : q.de = ⟨#[]⟩
  case neg => rw [if_neg h6]
  rw [if_pos h6]
  by_cases h7 : ((q.ck == 0 && ((q.re == 0 && (q.im == 0)))) = true)
  case neg => rw [if_neg h7]
  rw [if_pos h7]
  by_cases h8 : q.id = 0
  case neg => rw [if_neg h8]
  rw [if_pos h8]
  by_cases h9 : q.n = 0
  case neg => rw [if_neg h9]
  rw [if_pos h9]
  by_cases h10 : ((q.pa.length : Int) = 0)
  case neg => rw [if_neg h10]
  rw [if_pos h10]
  by_cases h11 : q.bo = ⟨#[]⟩
  ·exfalso
   simp only [Bool.and_eq_true, beq_iff_eq] at h7
   exact h ⟨h1, h2, h3, h4, h5, h6, h7, h8, h9, List.eq_nil_of_length_eq_zero (by omega), h11⟩
  ·rw [decide_eq_false h11]
instance (l : List Int) : Decidable (Bytes l) := by unfold Bytes; infer_instance
/-- A request that is right. -/
def Fits0 (q : Rq) : Prop := (1 ≤ q.kd ∧ q.kd ≤ 23) ∧ (q.bu.size ≤ 255 ∧ q.ob.size ≤ 255 ∧ q.ve.size ≤ 255 ∧ q.pr.size ≤ 255 ∧ q.de.size ≤ 255) ∧ q.bo.size ≤ 65535 ∧ (0 ≤ q.ses ∧ q.ses ≤ 255) ∧ (0 ≤ q.n ∧ q.n ≤ 65535) ∧ (0 ≤ q.ck ∧ q.ck ≤ 255) ∧ q.pa.length ≤ 255 ∧ Bytes q.pa ∧ tagOk q.re q.im = true ∧ (q.ck = 2 ∨ (q.re = 0 ∧ q.im = 0))
def fitsF (k : Nat) (q : Rq) : Option Bool := wire_fits.f k q.kd q.ses q.bu q.ob q.ve q.pr q.de q.bo q.ck q.re q.im q.id q.n q.pa
theorem among_is (a b : Int) : wire_among.f a b = some (decide (0 ≤ a ∧ a ≤ b)) := by
 unfold wire_among.f
 by_cases h : a ≥ 0
 ·rw [if_pos h]; simp [h]
 ·rw [if_neg h]; simp [show ¬ 0 ≤ a from h]
theorem stray_is (q : Rq) : slices_ContainsFunc_int_int.f q.pa 72 = some (decide (¬ Bytes q.pa)) := by
 unfold slices_ContainsFunc_int_int.f
 rw [if_pos rfl]
 congr 1
 rw [Bool.eq_iff_iff]
 simp [Bytes]
 constructor
 ·rintro ⟨x, hx, h⟩
  exact ⟨x, hx, fun h0 => by omega⟩
 ·rintro ⟨x, hx, h⟩
  exact ⟨x, hx, by omega⟩
theorem long_is (q : Rq) : slices_ContainsFunc_string_string.f [q.bu, q.ob, q.ve, q.pr, q.de] 71 = some (decide (¬ (q.bu.size ≤ 255 ∧ q.ob.size ≤ 255 ∧ q.ve.size ≤ 255 ∧ q.pr.size ≤ 255 ∧ q.de.size ≤ 255))) := by
 unfold slices_ContainsFunc_string_string.f
 rw [if_pos (.inl rfl)]
 congr 1
 rw [Bool.eq_iff_iff]
 simp [slices_ContainsFunc_string_string.p]
 omega
theorem j0_is (k : Nat) (x : Bool) (q : Rq) : (x = false ∧ ((0 ≤ q.ses ∧ q.ses ≤ 255) ∧ (0 ≤ q.n ∧ q.n ≤ 65535) ∧ (0 ≤ q.ck ∧ q.ck ≤ 255) ∧ q.pa.length ≤ 255 ∧ Bytes q.pa ∧ tagOk q.re q.im = true ∧ (q.ck = 2 ∨ (q.re = 0 ∧ q.im = 0))) → wire_fits.j0 (k + 1) 72 x q.kd q.ses q.bu q.ob q.ve q.pr q.de q.bo q.ck q.re q.im q.id q.n q.pa = some true) ∧ (¬ (x = false ∧ ((0 ≤ q.ses ∧ q.ses ≤ 255) ∧ (0 ≤ q.n ∧ q.n ≤ 65535) ∧ (0 ≤ q.ck ∧ q.ck ≤ 255) ∧ q.pa.length ≤ 255 ∧ Bytes q.pa ∧ tagOk q.re q.im = true ∧ (q.ck = 2 ∨ (q.re = 0 ∧ q.im = 0)))) → wire_fits.j0 (k + 1) 72 x q.kd q.ses q.bu q.ob q.ve q.pr q.de q.bo q.ck q.re q.im q.id q.n q.pa = some false) := by
 simp only [wire_fits.j0, among_is, stray_is, tag_Check.f, Option.bind_some]
 constructor
 ·rintro ⟨rfl, h1, h2, h3, h4, h5, h6, h7⟩
  have h4' : ¬ (q.pa.length : Int) > 255 := by omega
  rcases h7 with h7 | ⟨h7, h8⟩
  ·simp [h1, h2, h3, h4', h5, h6, h7]
  ·rw [h7, h8] at h6 ⊢
   simp [h1, h2, h3, h4', h5, h6]
 ·intro h
  cases x with
  | true => simp
  | false =>
   by_cases h1 : 0 ≤ q.ses ∧ q.ses ≤ 255
   case neg => simp [h1]
   by_cases h2 : 0 ≤ q.n ∧ q.n ≤ 65535
   case neg => simp [h1, h2]
   by_cases h3 : 0 ≤ q.ck ∧ q.ck ≤ 255
   case neg => simp [h1, h2, h3]
   by_cases h4 : (q.pa.length : Int) > 255
   case pos => simp [h1, h2, h3, h4]
   by_cases h5 : Bytes q.pa
   case neg => simp [h1, h2, h3, h4, h5]
   by_cases h6 : tagOk q.re q.im = true
   case neg => simp [h1, h2, h3, h4, h5, h6]
   by_cases h7 : q.ck = 2
   ·exact absurd ⟨rfl, h1, h2, h3, by omega, h5, h6, .inl h7⟩ h
   ·have h8 : ¬ (q.re = 0 ∧ q.im = 0) := fun h8 => h ⟨rfl, h1, h2, h3, by omega, h5, h6, .inr h8⟩
    simp [h1, h2, h3, h4, h5, h6, h7]
    intro h9 h10
    exact h8 ⟨h9, h10⟩
theorem fits_is (k : Nat) (q : Rq) : (Fits0 q → fitsF (k + 1) q = some true) ∧ (¬ Fits0 q → fitsF (k + 1) q = some false) := by
 unfold fitsF wire_fits.f Fits0
 rw [long_is]
 simp only [Option.bind_some]
 constructor
 ·rintro ⟨h1, h2, h3, h4⟩
  rw [if_neg (by omega), if_neg (by omega)]
  rw [if_neg (by simp [h2])]
  exact (j0_is k _ q).1 ⟨decide_eq_false (by omega), h4⟩
 ·intro h
  by_cases h1 : q.kd < 1
  ·rw [if_pos h1]; exact (j0_is k _ q).2 (by simp)
  rw [if_neg h1]
  by_cases h2 : q.kd > 23
  ·rw [if_pos h2]; exact (j0_is k _ q).2 (by simp)
  rw [if_neg h2]
  by_cases h3 : q.bu.size ≤ 255 ∧ q.ob.size ≤ 255 ∧ q.ve.size ≤ 255 ∧ q.pr.size ≤ 255 ∧ q.de.size ≤ 255
  ·rw [if_neg (by simp [h3])]
   refine (j0_is k _ q).2 (fun h4 => h ⟨by omega, h3, ?_, h4.2⟩)
   have := of_decide_eq_false h4.1
   omega
  ·rw [if_pos (by simp only [h3, not_false_iff, decide_true])]; exact (j0_is k _ q).2 (by simp)
/-- A right request: its parts fit, and it has no others than its kind's. -/
def Ok (q : Rq) : Prop := Fits0 q ∧ Emp (q.blanks (fs q.kd).data.toList)
theorem check_is (k : Nat) (q : Rq) (hq : q.pv = .slice none 0 0) : (Ok q → wire_Check.f (k + 4) q.kd q.ses q.bu q.ob q.ve q.pr q.de q.bo q.ck q.re q.im q.id q.n q.pa = some 0) ∧ (¬ Ok q → wire_Check.f (k + 4) q.kd q.ses q.bu q.ob q.ve q.pr q.de q.bo q.ck q.re q.im q.id q.n q.pa = some 4) := by
 unfold wire_Check.f
 rw [Fields_is]
 simp only [Option.bind_some]
 rw [if_pos (fs_nice q.kd).1]
 have hqq : (⟨q.kd, q.ses, q.bu, q.ob, q.ve, q.pr, q.de, q.bo, q.ck, q.re, q.im, q.id, q.n, .slice none 0 0, q.pa⟩ : Rq) = q := by rw [← hq]
 rw [hqq]
 unfold wire_Check.g
 have h1 := fits_is (k + 3) q
 unfold fitsF at h1
 have h2 := emp_is (q.blanks (fs q.kd).data.toList)
 constructor
 ·rintro ⟨a, b⟩
  rw [h1.1 a]
  simp only [Option.bind_some, if_true]
  rw [h2.1 b]
  rfl
 ·intro h
  by_cases a : Fits0 q
  ·rw [h1.1 a]
   simp only [Option.bind_some, if_true]
   rw [h2.2 (fun b => h ⟨a, b⟩)]
   rfl
  ·rw [h1.2 a]
   rfl
theorem parts_put (pa : List Int) (hpa : pa.length ≤ 1000) : ∀ (j K : Nat) (l : List Int), j ≤ pa.length → j < K → 1 < K - j → l.length + j ≤ 140737488355328 → wire_put.l0 K l pa pa.length ((pa.length - j : Nat) : Int) = some (l ++ (pa.drop (pa.length - j)).map (fun x => x % 256))
 | 0, K, l, _, hK, _, _ => by
  obtain ⟨K, rfl⟩ : ∃ m, K = m + 1 := ⟨K - 1, by omega⟩
  rw [wire_put.l0, if_neg (by omega)]
  simp
 | j + 1, K, l, hj, hK, hK2, hl => by
  obtain ⟨K, rfl⟩ : ∃ m, K = m + 1 := ⟨K - 1, by omega⟩
  have hlt : pa.length - (j + 1) < pa.length := by omega
  rw [wire_put.l0, if_pos (by omega), if_pos (by omega), if_pos (by omega), Put8 K l _ (by omega) (by omega)]
  simp only [Option.bind_some]
  rw [show wrap64 (((pa.length - (j + 1) : Nat) : Int) + 1) = ((pa.length - j : Nat) : Int) by unfold wrap64; omega, parts_put pa hpa j K _ (by omega) (by omega) (by omega) (by rw [List.length_append, be_length]; omega), List.drop_eq_getElem_cons hlt, show pa.length - (j + 1) + 1 = pa.length - j by omega]
  have hrd : rd pa ((pa.length - (j + 1) : Nat) : Int) = pa[pa.length - (j + 1)] := by
   unfold rd
   rw [Int.toNat_natCast, List.getD_eq_getElem?_getD, List.getElem?_eq_getElem hlt]
   rfl
  rw [hrd]
  simp [be]
def Sized (q : Rq) : Prop := (q.bu.size ≤ 255 ∧ q.ob.size ≤ 255 ∧ q.ve.size ≤ 255 ∧ q.pr.size ≤ 255 ∧ q.de.size ≤ 255) ∧ q.bo.size ≤ 65535 ∧ q.pa.length ≤ 255
theorem fb_len (c : Nat) (q : Rq) (h : Sized q) : (fb c q).length ≤ 65537 := by
 obtain ⟨⟨h1, h2, h3, h4, h5⟩, h6, h7⟩ := h
 unfold fb
 repeat' split
 all_goals (simp [txt, be_length, bytesOf_length]; try omega)
theorem bytesL_len (q : Rq) (h : Sized q) : ∀ L : List UInt8, (bytesL L q).length ≤ 65537 * L.length
 | [] => by simp [bytesL]
 | c :: L => by
  have h1 := fb_len c.toNat q h
  have h2 := bytesL_len q h L
  simp only [bytesL] at h2
  simp only [bytesL, List.flatMap_cons, List.length_append, List.length_cons]
  omega
theorem short_is (K : Nat) (l : List Int) (s : ByteArray) (hK : 1 < K) (hs : s.size ≤ 255) (hl : l.length ≤ 100000000) : wire_short.f K l s = some (l ++ txt 1 s) := by
 unfold wire_short.f
 rw [Put8 K l _ hK (by omega)]
 simp only [Option.bind_some]
 rw [if_pos (by rw [List.length_append, be_length]; omega), txt, List.append_assoc]
def put2F (k : Nat) (l : List Int) (q : Rq) (c : Nat) : Option (List Int) := wire_Bytes.put2 k l q.kd q.ses q.bu q.ob q.ve q.pr q.de q.bo q.ck q.re q.im q.id q.n q.pa c
theorem put2_is (k : Nat) (l : List Int) (q : Rq) (h : Sized q) (hl : l.length ≤ 100000000) (c : Nat) (hc : c ∈ letters) : put2F (k + 1000) l q c = some (l ++ fb c q) := by
 obtain ⟨⟨h1, h2, h3, h4, h5⟩, h6, h7⟩ := h
 have hK : 8 < k + 1000 := by omega
 unfold put2F wire_Bytes.put2
 simp only [letters, List.mem_cons, List.not_mem_nil, or_false] at hc
 rcases hc with rfl | rfl | rfl | rfl | rfl | rfl | rfl | rfl | rfl | rfl | rfl
 ·simp [wire_put.f, fb, Put8 _ l q.ses (show 1 < k + 1000 by omega) (by omega)]
 ·simp [wire_put.f, fb, short_is _ l q.bu (show 1 < k + 1000 by omega) h1 hl]
 ·simp [wire_put.f, fb, short_is _ l q.ob (show 1 < k + 1000 by omega) h2 hl]
 ·simp [wire_put.f, fb, short_is _ l q.ve (show 1 < k + 1000 by omega) h3 hl]
 ·simp [wire_put.f, fb, short_is _ l q.pr (show 1 < k + 1000 by omega) h4 hl]
 ·simp [wire_put.f, fb, short_is _ l q.de (show 1 < k + 1000 by omega) h5 hl]
 ·by_cases hk : q.ck = 2
  ·have a1 := Put8 (k + 1000) l 2 (by omega) (by omega)
   have a2 := Put32 (k + 1000) (l ++ be 1 2) q.re (by omega) (by rw [List.length_append, be_length]; omega)
   have a3 := Put32 (k + 1000) (l ++ be 1 2 ++ be 4 q.re) q.im (by omega) (by rw [List.length_append, List.length_append, be_length, be_length]; omega)
   simp [-List.append_assoc, wire_put.f, fb, hk, wire_putTag.f, a1, a2, a3]
   simp
  ·simp [wire_put.f, fb, hk, Put8 _ l q.ck (show 1 < k + 1000 by omega) (by omega)]
 ·simp [wire_put.f, fb, Put64 _ l q.id hK (by omega)]
 ·simp [wire_put.f, fb, Put16 _ l q.n (show 2 < k + 1000 by omega) (by omega)]
 ·have hp := parts_put q.pa (by omega) q.pa.length (k + 1000) (l ++ be 1 q.pa.length) (Nat.le_refl _) (by omega) (by omega) (by rw [List.length_append, be_length]; omega)
  rw [Nat.sub_self, List.drop_zero] at hp
  simp [wire_put.f, fb, Put8 _ l q.pa.length (show 1 < k + 1000 by omega) (by omega)]
  simpa using hp
 ·rw [if_pos rfl, Put16 _ l q.bo.size (show 2 < k + 1000 by omega) (by omega)]
  simp only [Option.bind_some]
  rw [if_pos (by rw [List.length_append, be_length]; omega)]
  simp [fb, txt]
theorem puts_is (k : Nat) (q : Rq) (h : Sized q) : ∀ (L : List UInt8) (l : List Int), (∀ c ∈ L, c.toNat ∈ letters) → l.length + 65537 * L.length ≤ 100000000 → wire_Bytes.puts (k + 1000) q.kd q.ses q.bu q.ob q.ve q.pr q.de q.bo q.ck q.re q.im q.id q.n q.pa L l = some (l ++ bytesL L q)
 | [], l, _, _ => by simp [wire_Bytes.puts, bytesL]
 | c :: L, l, hL, hl => by
  rw [List.length_cons] at hl
  have h1 := put2_is k l q h (by omega) c.toNat (hL c (by simp))
  unfold put2F at h1
  have h2 := fb_len c.toNat q h
  rw [wire_Bytes.puts, h1]
  simp only [Option.bind_some]
  rw [puts_is k q h L _ (fun d hd => hL d (by simp [hd])) (by rw [List.length_append]; omega)]
  simp [bytesL]
/-- A request's bytes. -/
def bytes (q : Rq) : List Int := be 1 q.kd ++ bytesL (fs q.kd).data.toList q
theorem Fits0.sized {q : Rq} (h : Fits0 q) : Sized q := ⟨h.2.1, h.2.2.1, h.2.2.2.2.2.2.1⟩
theorem fs_len (x : Int) : (fs x).data.toList.length ≤ 6 := by
 have := (fs_nice x).2.1
 rw [Array.length_toList]
 exact this
theorem bytes_len {q : Rq} (h : Fits0 q) : 0 < (bytes q).length ∧ (bytes q).length ≤ 1000000 := by
 have h1 := bytesL_len q h.sized (fs q.kd).data.toList
 have h2 := fs_len q.kd
 unfold bytes
 rw [List.length_append, be_length]
 omega
theorem bytes_is (k : Nat) (q : Rq) (hq : q.pv = .slice none 0 0) : (Ok q → wire_Bytes.f (k + 1000) q.kd q.ses q.bu q.ob q.ve q.pr q.de q.bo q.ck q.re q.im q.id q.n q.pa = some (bytes q, 0)) ∧ (¬ Ok q → wire_Bytes.f (k + 1000) q.kd q.ses q.bu q.ob q.ve q.pr q.de q.bo q.ck q.re q.im q.id q.n q.pa = some ([], 4)) := by
 unfold wire_Bytes.f
 have hc := check_is (k + 996) q hq
 constructor
 ·intro h
  rw [hc.1 h]
  simp only [Option.bind_some, if_true]
  rw [Put8 _ [] q.kd (by omega) (by simp), show k + 1000 = (k + 996) + 4 from rfl, Fields_is]
  simp only [Option.bind_some]
  have h2 := fs_len q.kd
  rw [if_pos (fs_nice q.kd).1, puts_is k q h.1.sized _ _ (fs_nice q.kd).2.2.2 (by rw [List.nil_append, be_length]; omega)]
  simp [bytes]
 ·intro h
  rw [hc.2 h]
  rfl
def Good (q : Rq) (s : ByteArray) : Prop := Emp (q.blanks s.data.toList) → Rq.same (sets s.data.toList (wire_Read.q0 q.kd) q) q
theorem good_ite {q : Rq} {c : Prop} [Decidable c] {a b : ByteArray} (ha : Good q a) (hb : Good q b) : Good q (if c then a else b) := by split <;> assumption
theorem fs_good (q : Rq) : Good q (fs q.kd) := by
 obtain ⟨kd, ses, bu, ob, ve, pr, de, bo, ck, re, im, id, n, pv, pa⟩ := q
 unfold fs
 repeat' refine good_ite ?_ ?_
 all_goals
  intro h
  simp [Rq.blanks, Rq.blank, Emp] at h
  simp [sets, set, Rq.same, wire_Read.q0, h]
theorem fb_bytes (c : Nat) (q : Rq) : Bytes (fb c q) := by
 have ht : ∀ k s, Bytes (txt k s) := fun k s => Bytes.app (be_range k _) (bytesOf_range s)
 have hm : Bytes (q.pa.map fun x => x % 256) := fun x hx => by
  obtain ⟨y, _, rfl⟩ := List.mem_map.1 hx
  omega
 have hn : Bytes [] := fun _ h => by cases h
 unfold fb
 repeat' split
 all_goals first
  | exact ht _ _
  | exact be_range _ _
  | exact hn
  | exact Bytes.app (be_range _ _) hm
  | exact Bytes.app (be_range _ _) (Bytes.app (be_range _ _) (be_range _ _))
  | exact Bytes.app (be_range _ _) hn
theorem bytesL_bytes (q : Rq) : ∀ L, Bytes (bytesL L q)
 | [] => fun _ h => by cases h
 | c :: L => by
  have := bytesL_bytes q L
  simp only [bytesL] at this
  simp only [bytesL, List.flatMap_cons]
  exact Bytes.app (fb_bytes _ q) this
theorem bytes_bytes (q : Rq) : Bytes (bytes q) := Bytes.app (be_range 1 _) (bytesL_bytes q _)
def IdOk (q : Rq) : Prop := -9223372036854775808 ≤ q.id ∧ q.id ≤ 9223372036854775807
theorem Ok.fits {q : Rq} (h : Ok q) (hi : IdOk q) : Fits q := ⟨h.1.1, h.1.2.1, h.1.2.2.1, h.1.2.2.2.1, h.1.2.2.2.2.1, h.1.2.2.2.2.2.1, h.1.2.2.2.2.2.2.1, h.1.2.2.2.2.2.2.2.1, h.1.2.2.2.2.2.2.2.2.1, h.1.2.2.2.2.2.2.2.2.2, hi⟩
theorem read_at (q : Rq) (h : Ok q) (hi : IdOk q) (post : List Int) : Rd.takeF (bytes q ++ post) 0 0 1 = (q.kd, 1, 0) ∧ gets (bytes q ++ post) (fs q.kd).data.toList (wire_Read.q0 q.kd) 1 0 = (sets (fs q.kd).data.toList (wire_Read.q0 q.kd) q, ((bytes q).length : Int), 0) := by
 have hn := fs_nice q.kd
 constructor
 ·have := head_at [] (bytesL (fs q.kd).data.toList q ++ post) 1 q.kd (by have := h.1.1; omega) (by rw [p1]; have := h.1.1; omega) (by have := h.1.1; omega)
  simpa [bytes] using this
 ·have := gets_at q (h.fits hi) post (fs q.kd).data.toList (be 1 q.kd) (wire_Read.q0 q.kd) hn.2.2.2 hn.2.2.1 (fun _ => rfl) (fun _ => ⟨rfl, rfl⟩)
  rw [be_length] at this
  have e : bytes q ++ post = be 1 q.kd ++ (bytesL (fs q.kd).data.toList q ++ post) := by simp [bytes]
  rw [e, show (bytes q).length = 1 + (bytesL (fs q.kd).data.toList q).length by rw [bytes, List.length_append, be_length]]
  exact this
theorem all_bytes {xs : List Int} (h : Bytes xs) : (xs.all fun x => decide (0 ≤ x ∧ x ≤ 255)) = true := List.all_eq_true.2 fun x hx => decide_eq_true (h x hx)
/-- What Read tells, in plain. -/
theorem Read_is (k : Nat) (xs : List Int) (hb : Bytes xs) (hl : xs.length ≤ 140737488351232) : wire_Read.f (k + 1000) xs = wire_Read.fin (k + 1000) xs (gets xs (fs (Rd.takeF xs 0 0 1).1).data.toList (wire_Read.q0 (Rd.takeF xs 0 0 1).1) (Rd.takeF xs 0 0 1).2.1 (Rd.takeF xs 0 0 1).2.2) := by
 unfold wire_Read.f
 rw [if_pos ⟨hl, all_bytes hb⟩, show k + 1000 = (k + 996) + 4 from rfl, Fields_is]
 have hn := fs_nice (Rd.takeF xs 0 0 1).1
 simp only [Option.bind_some]
 rw [if_pos ⟨hn.1, by have := hn.2.1; omega⟩]
def ZT (e : Int) : Int × Int × ByteArray × ByteArray × ByteArray × ByteArray × ByteArray × ByteArray × Int × Int × Int × Int × Int × List Int × Int := (0, 0, ⟨#[]⟩, ⟨#[]⟩, ⟨#[]⟩, ⟨#[]⟩, ⟨#[]⟩, ⟨#[]⟩, 0, 0, 0, 0, 0, [], e)
theorem Read_miss (k : Nat) (q : Rq) (h : Ok q) (hi : IdOk q) (post : List Int) (hp : post ≠ []) (hpb : Bytes post) (hl : (bytes q ++ post).length ≤ 140737488351232) : wire_Read.f (k + 1000) (bytes q ++ post) = some (ZT 4) := by
 rw [Read_is k _ (Bytes.app (bytes_bytes q) hpb) hl]
 obtain ⟨h1, h2⟩ := read_at q h hi post
 rw [h1]
 dsimp only
 rw [h2]
 unfold wire_Read.fin
 have : 0 < post.length := List.length_pos_iff.2 hp
 rw [if_neg]
 ·rfl
 ·dsimp only
  unfold Rd.endF
  rw [if_pos rfl, if_pos (by rw [List.length_append]; omega)]
  decide
def tupQ (q : Rq) (e : Int) : Int × Int × ByteArray × ByteArray × ByteArray × ByteArray × ByteArray × ByteArray × Int × Int × Int × Int × Int × List Int × Int := (q.kd, q.ses, q.bu, q.ob, q.ve, q.pr, q.de, q.bo, q.ck, q.re, q.im, q.id, q.n, q.pa, e)
theorem tupQ_same {a b : Rq} (h : Rq.same a b) (e : Int) : tupQ a e = tupQ b e := by
 obtain ⟨h1, h2, h3, h4, h5, h6, h7, h8, h9, h10, h11, h12, h13, h14⟩ := h
 unfold tupQ
 rw [h1, h2, h3, h4, h5, h6, h7, h8, h9, h10, h11, h12, h13, h14]
theorem checkS {a b : Rq} (h : Rq.same a b) (k : Nat) : wire_Check.f k a.kd a.ses a.bu a.ob a.ve a.pr a.de a.bo a.ck a.re a.im a.id a.n a.pa = wire_Check.f k b.kd b.ses b.bu b.ob b.ve b.pr b.de b.bo b.ck b.re b.im b.id b.n b.pa := by
 obtain ⟨h1, h2, h3, h4, h5, h6, h7, h8, h9, h10, h11, h12, h13, h14⟩ := h
 rw [h1, h2, h3, h4, h5, h6, h7, h8, h9, h10, h11, h12, h13, h14]
theorem Read_hit (k : Nat) (q : Rq) (hq : q.pv = .slice none 0 0) (h : Ok q) (hi : IdOk q) : wire_Read.f (k + 1000) (bytes q) = some (tupQ q 0) := by
 have hl := bytes_len h.1
 rw [Read_is k _ (bytes_bytes q) (by omega)]
 obtain ⟨h1, h2⟩ := read_at q h hi []
 rw [List.append_nil] at h1 h2
 rw [h1]
 dsimp only
 rw [h2]
 have hs := fs_good q h.2
 unfold wire_Read.fin
 rw [if_pos (by dsimp only; unfold Rd.endF; rw [if_pos rfl, if_neg (by omega)])]
 dsimp only
 rw [checkS hs, show k + 1000 = (k + 996) + 4 from rfl, (check_is (k + 996) q hq).1 h]
 simp only [Option.bind_some, if_true]
 exact congrArg some (tupQ_same hs 0)
theorem take_rng (xs : List Int) (p err : Int) (k : Nat) : -9223372036854775808 ≤ (Rd.takeF xs p err k).1 ∧ (Rd.takeF xs p err k).1 ≤ 9223372036854775807 := by
 unfold Rd.takeF
 repeat' split
 ·dsimp only
  unfold wrap64
  omega
 ·exact ⟨by show (-9223372036854775808 : Int) ≤ 0; decide, by show (0 : Int) ≤ 9223372036854775807; decide⟩
 ·exact ⟨by show (-9223372036854775808 : Int) ≤ 0; decide, by show (0 : Int) ≤ 9223372036854775807; decide⟩
def IdR (r : Rq × Int × Int) : Prop := IdOk r.1
theorem idr_ite {c : Prop} [Decidable c] {a b : Rq × Int × Int} (ha : IdR a) (hb : IdR b) : IdR (if c then a else b) := by split <;> assumption
theorem get1_id {xs : List Int} {c : Nat} (q : Rq) (p err : Int) (h : IdOk q) : IdOk (get1 xs c q p err).1 := by
 refine (?_ : IdR (get1 xs c q p err))
 unfold get1 getF
 repeat' refine idr_ite ?_ ?_
 all_goals first
  | exact h
  | exact take_rng xs p err 8
theorem gets_id {xs : List Int} : ∀ (L : List UInt8) (q : Rq) (p err : Int), IdOk q → IdOk (gets xs L q p err).1
 | [], q, p, err, h => h
 | c :: L, q, p, err, h => gets_id L _ _ _ (get1_id q p err h)
/-- Whatever bytes are read: none's, or a right request's, and then just its bytes. -/
theorem Read_any (k : Nat) (xs : List Int) (hb : Bytes xs) (hl : xs.length ≤ 140737488351232) : wire_Read.f (k + 1000) xs = some (ZT 4) ∨ ∃ q : Rq, q.pv = .slice none 0 0 ∧ Ok q ∧ IdOk q ∧ bytes q = xs ∧ wire_Read.f (k + 1000) xs = some (tupQ q 0) := by
 rw [Read_is k xs hb hl]
 obtain ⟨⟨kd, p, err⟩, ht⟩ : ∃ r, Rd.takeF xs 0 0 1 = r := ⟨_, rfl⟩
 rw [ht]
 dsimp only
 obtain ⟨⟨q, p2, e2⟩, hg⟩ : ∃ r, gets xs (fs kd).data.toList (wire_Read.q0 kd) p err = r := ⟨_, rfl⟩
 rw [hg]
 have hid := gets_id (xs := xs) (fs kd).data.toList (wire_Read.q0 kd) p err ⟨by show (-9223372036854775808 : Int) ≤ 0; omega, by show (0 : Int) ≤ 9223372036854775807; omega⟩
 rw [hg] at hid
 unfold wire_Read.fin
 dsimp only
 by_cases he : Rd.endF xs p2 e2 = 0
 ·rw [if_pos he]
  have hq' : (⟨q.kd, q.ses, q.bu, q.ob, q.ve, q.pr, q.de, q.bo, q.ck, q.re, q.im, q.id, q.n, .slice none 0 0, q.pa⟩ : Rq).pv = .slice none 0 0 := rfl
  have hc := check_is (k + 996) ⟨q.kd, q.ses, q.bu, q.ob, q.ve, q.pr, q.de, q.bo, q.ck, q.re, q.im, q.id, q.n, .slice none 0 0, q.pa⟩ hq'
  by_cases hk : Ok ⟨q.kd, q.ses, q.bu, q.ob, q.ve, q.pr, q.de, q.bo, q.ck, q.re, q.im, q.id, q.n, .slice none 0 0, q.pa⟩
  ·right
   refine ⟨_, hq', hk, hid, ?_, ?_⟩
   ·show be 1 q.kd ++ bytesL (fs q.kd).data.toList q = xs
    unfold Rd.endF at he
    have he2 : e2 = 0 := by
     refine Classical.byContradiction fun hne => ?_
     rw [if_neg hne] at he
     exact hne he
    rw [if_pos he2] at he
    have hp2 : ¬ p2 < xs.length := fun h => by rw [if_pos h] at he; cases he
    subst he2
    have hn := fs_nice kd
    have hpb : 0 ≤ p ∧ p ≤ xs.length := by
     unfold Rd.takeF at ht
     rw [if_pos rfl] at ht
     by_cases h1 : (0 : Int) + ((1 : Nat) : Int) ≤ xs.length
     ·rw [if_pos h1] at ht
      injection ht with _ ht
      injection ht with ht _
      omega
     ·rw [if_neg h1] at ht
      injection ht with _ ht
      injection ht with ht _
      omega
    obtain ⟨f0, f1, f2, f3, f4, f5⟩ := gets_ok hb _ _ _ _ _ _ hn.2.2.2 hn.2.2.1 (fun _ => rfl) hpb.1 hpb.2 hg
    subst f0
    obtain ⟨e0, e1, e2, e3⟩ := int_ok hb (.inl (by omega)) (by omega) ht
    have hkd : q.kd = kd := f4
    rw [hkd]
    have h3 : xs = be 1 kd ++ xs.drop p.toNat := e3
    rw [List.drop_eq_nil_of_le (by omega : xs.length ≤ p2.toNat), List.append_nil] at f3
    rw [f3] at h3
    exact h3.symm
   ·rw [show k + 1000 = (k + 996) + 4 from rfl, hc.1 hk]
    rfl
  ·left
   rw [show k + 1000 = (k + 996) + 4 from rfl, hc.2 hk]
   rfl
 ·left
  rw [if_neg he]
  rfl
theorem Read_cut (k : Nat) (q : Rq) (hq : q.pv = .slice none 0 0) (h : Ok q) (hi : IdOk q) : wire_Read.f (k + 1000) ((bytes q).take ((bytes q).length - 1)) = some (ZT 4) := by
 have hl := bytes_len h.1
 have hb : Bytes ((bytes q).take ((bytes q).length - 1)) := fun x hx => bytes_bytes q x (List.mem_of_mem_take hx)
 rcases Read_any k _ hb (by rw [List.length_take]; omega) with h1 | ⟨y, hy, hok, hid, hby, _⟩
 ·exact h1
 ·exfalso
  have hd : (bytes q).drop ((bytes q).length - 1) ≠ [] := fun e => by
   have := congrArg List.length e
   rw [List.length_drop] at this
   simp at this
   omega
  have e : bytes y ++ (bytes q).drop ((bytes q).length - 1) = bytes q := by rw [hby]; exact List.take_append_drop _ _
  have hm := Read_miss k y hok hid _ hd (fun x hx => bytes_bytes q x (List.mem_of_mem_drop hx)) (by rw [e]; omega)
  rw [e, Read_hit k q hq h hi] at hm
  have hm := Option.some.inj hm
  have hm := congrArg (fun t : Int × Int × ByteArray × ByteArray × ByteArray × ByteArray × ByteArray × ByteArray × Int × Int × Int × Int × Int × List Int × Int => t.2.2.2.2.2.2.2.2.2.2.2.2.2.2) hm
  exact absurd (show (0 : Int) = 4 from hm) (by decide)
end Go.Proofs.Ytmdgdndidfcapaa.Pq
