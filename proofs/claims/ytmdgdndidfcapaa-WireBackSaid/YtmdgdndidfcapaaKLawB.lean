/- WireBack: the walk and the plain law joined; for every input. -/
import Derived.Test.YtmdgdndidfcapaaKTwback
import Derived.Test.YtmdgdndidfcapaaKPq
namespace Go.Proofs.Ytmdgdndidfcapaa.LawB
open Go.RowKit Go.Proofs.Ytmdgdndidfcapaa.QB Go.Proofs.Ytmdgdndidfcapaa.Pq Go.Proofs.YtmdgdndidfcapaaW.PrintWords
theorem back (kd : Int) (ses : Int) (bu : ByteArray) (ob : ByteArray) (ve : ByteArray) (pr : ByteArray) (de : ByteArray) (bo : ByteArray) (ck : Int) (re : Int) (im : Int) (id : Int) (n : Int) (hid : -9223372036854775808 ≤ id ∧ id ≤ 9223372036854775807) (A : Option Addr) (c : Nat) (pa : List Int) (A1 : Option Addr) (c1 : Nat) (l1 : List Int) (m : Int) (w : World) (hr : Kd.C (Kd.int .i64) w A pa.length pa) (hc : pa.length ≤ c) (hr1 : Kd.C (Kd.int .u8) w A1 l1.length l1) (hc1 : l1.length ≤ c1) (hb1 : ∀ x ∈ l1, 0 ≤ x ∧ x ≤ 255) (hl1 : l1.length ≤ 140737488351232) (hm : 0 ≤ m ∧ m ≤ 255) :
  Calls Try.prog 3 #[.agg #[.int .i64 kd, .int .i64 ses, .string bu, .string ob, .string ve, .string pr, .string de, .string bo, .int .i64 ck, .int .i64 re, .int .i64 im, .int .i64 id, .int .i64 n, .slice A pa.length c], .slice A1 l1.length c1, .int .u8 m] w fun e w' => e = .returned (.bool true) ∧ Below w.heap.size w w' := by
 obtain ⟨x, e, hx⟩ : ∃ (x : List Int) (e : Int), wire_Bytes.f 1000 kd ses bu ob ve pr de bo ck re im id n pa = some (x, e) ∧ (e = 0 → 0 < x.length ∧ x.length ≤ 1000000 ∧ wire_Read.f 1000 x = some (kd, ses, bu, ob, ve, pr, de, bo, ck, re, im, id, n, pa, 0) ∧ wire_Read.f 1000 (x ++ [m]) = some (ZT 4) ∧ wire_Read.f 1000 (x.take (x.length - 1)) = some (ZT 4)) ∧ (e ≠ 0 → e = 4 ∧ x = [] ∧ wire_Check.f 1000 kd ses bu ob ve pr de bo ck re im id n pa = some 4) := by
  have hb := bytes_is 0 ⟨kd, ses, bu, ob, ve, pr, de, bo, ck, re, im, id, n, .slice none 0 0, pa⟩ rfl
  by_cases hok : Ok ⟨kd, ses, bu, ob, ve, pr, de, bo, ck, re, im, id, n, .slice none 0 0, pa⟩
  ·have hl := bytes_len hok.1
   refine ⟨_, 0, hb.1 hok, fun _ => ⟨hl.1, hl.2, Read_hit 0 _ rfl hok hid, Read_miss 0 _ hok hid [m] (by simp) (fun y hy => by rw [List.mem_singleton.1 hy]; exact hm) (by rw [List.length_append, List.length_singleton]; omega), Read_cut 0 _ rfl hok hid⟩, fun h => absurd rfl h⟩
  ·exact ⟨_, 4, hb.2 hok, fun h => absurd h (by decide), fun _ => ⟨rfl, rfl, (check_is 996 ⟨kd, ses, bu, ob, ve, pr, de, bo, ck, re, im, id, n, .slice none 0 0, pa⟩ rfl).2 hok⟩⟩
 rcases Read_any 0 l1 hb1 hl1 with h | ⟨y, hy, hok, hiy, hby, h⟩
 ·exact ambrylaw24_WireBack.walk 1000 kd ses bu ob ve pr de bo ck re im id n A c pa A1 c1 l1 m w hr hc hr1 hc1 hm x e (fun _ => hx) 0 0 ⟨#[]⟩ ⟨#[]⟩ ⟨#[]⟩ ⟨#[]⟩ ⟨#[]⟩ ⟨#[]⟩ 0 0 0 0 0 [] 4 h (fun h => absurd h (by decide)) (fun _ => rfl) (by simp)
 ·exact ambrylaw24_WireBack.walk 1000 kd ses bu ob ve pr de bo ck re im id n A c pa A1 c1 l1 m w hr hc hr1 hc1 hm x e (fun _ => hx) y.kd y.ses y.bu y.ob y.ve y.pr y.de y.bo y.ck y.re y.im y.id y.n y.pa 0 h (fun _ => by have := (bytes_is 0 y hy).1 hok; rw [hby] at this; exact this) (fun h => absurd rfl h) (by have := hok.1.2.2.2.2.2.2.1; omega)
end Go.Proofs.Ytmdgdndidfcapaa.LawB
